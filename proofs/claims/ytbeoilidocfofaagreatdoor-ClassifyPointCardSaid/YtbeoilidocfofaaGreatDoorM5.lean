/-
  Texts joined, part 5: UnRows, UnEnv, LgCut, UnMask, UnFind, UnTag, UnCur, UnBin, UnMp4, UnRefA, UnRefB, UnBs, UnTxt, UnTab, UnRefC, UnRefD, UnRefE, UnMp3, UnRefF, UnMed, UnKind, UnWebm, UnTop, UnRefG, SnBug, SnLive, SnTop, StFld, SnFld, SnRule, UnSame, UnLawPl, UnLaws, LgObj, StBldW, MiCur, MiTwo, StBs, MiQuo, MiCol, MiTrim, ObJson, ObJsonB, UrCode, UrCodeB, UrCodeC, UrSplit, UrDots, NuPlain, NuParts, UrNum, UrGood, UrLens, UrParse, HdPlain, HdBack, HdCode, HdRows, HdRef, HdList.
-/
import Derived.Test.YtbeoilidocfofaaGreatDoorM1
import Derived.Test.YtbeoilidocfofaaGreatDoorM4
import Derived.Test.YtbeoilidocfofaaGreatDoorM3
import Derived.Lib.IndexAny
import Derived.Lib.SlTrimSet
import Derived.Lib.ItoaNum
set_option linter.all false
set_option maxRecDepth 100000
namespace Tg.Un
open Go
def pcells:List Pat->List Value
 | []=> []
 |p::l=>Go.Lg.str p.b::Go.Lg.str p.m::Go.Lg.str p.s::Go.Lg.str p.t::pcells l
theorem pcells_len: ∀l:List Pat,(pcells l).length=l.length*4
 | []=>rfl
 |p::l=>by simp [pcells,pcells_len l];omega
theorem pcells_at: ∀ {l:List Pat} {i:Nat} (h:i<l.length) (rest:List Value),((pcells l++rest).drop (i*4)).take 4= [Go.Lg.str l[i].b,Go.Lg.str l[i].m,Go.Lg.str l[i].s,Go.Lg.str l[i].t]
 |p::l,0,h,rest=>by simp [pcells]
 |p::l,i+1,h,rest=>by
  have:=pcells_at (l:=l) (i:=i) (by simpa using h) rest;rw [Nat.succ_mul];simpa [pcells]using this
end Tg.Un
namespace Go.Proofs.YtbeoilidocfofaaGreatDoor
open Go.Lg Go.Tg
@[simp ↓] theorem AY {L:Loud} {t:TypeId} {x y:Operand} :aN L (.makeSlice t x y)=false:=rfl
theorem wrapI {x:Int} (h1: -9223372036854775808<=x) (h2:x<=9223372036854775807):IntKind.i64.wrap x=x:=wrap64_in h1 h2
theorem dw {s:List UInt8} {i:Nat} (h:i<s.length):at_ s (i:Int)=s[i]:=by
 unfold at_;rw [show((i:Nat):Int).toNat=i by omega,List.getD_eq_getElem?_getD,List.getElem?_eq_getElem h];rfl
theorem AZ (l:List UInt8) (c:UInt8):l.contains c=!decide (Lib.indexByte l c<0):=by
 induction l with
 |nil=>rfl
 |cons x l ih=>
  have hge:=Lib.indexByte_ge l c;rw [List.contains_cons];unfold Lib.indexByte;by_cases hx:x=c
  ·subst hx;simp
  ·have hx1:(x==c)=false:=by simp [hx]
   have hx2:(c==x)=false:=by simp;exact fun e=>hx e.symm
   rw [hx1,hx2,ih];simp only [Bool.false_or,Bool.false_eq_true,if_false];by_cases h1:Lib.indexByte l c= -1
   ·simp [h1]
   ·have:(Lib.indexByte l c== -1)=false:=by simp [h1]
    rw [this];simp only [Bool.false_eq_true,if_false];congr 2;rw [eq_iff_iff];omega
theorem QY (l:List UInt8) (c:UInt8):l.contains c=decide (0<=Lib.indexByte l c):=by
 rw [AZ];by_cases h:Lib.indexByte l c<0
 ·rw [decide_eq_true h,decide_eq_false (by omega)];rfl
 ·rw [decide_eq_false h,decide_eq_true (by omega)];rfl
theorem HQ {c b:UInt8} (h: ¬c=b):((c.toNat:Int)=(b.toNat:Int))=False:=eq_false (fun e=>h (UInt8.toNat_inj.mp (by omega)))
theorem A0 {a b c d:List UInt8} :bG Tryz.prog 158 [str [],str [],str [],str []] [(0,str a),(1,str b),(2,str c),(3,str d)]=some [str a,str b,str c,str d]:=by
 rw [aB (o:=0) (n:=1) (g:=false) (by simp) rfl (by simp) (by simp),aB (o:=1) (n:=1) (g:=false) (by simp) rfl (by simp) (by simp),aB (o:=2) (n:=1) (g:=false) (by simp) rfl (by simp) (by simp),aB (o:=3) (n:=1) (g:=false) (by simp) rfl (by simp) (by simp)];simp
theorem jI {a b d:List UInt8} :bG Tryz.prog 158 [str [],str [],str [],str []] [(0,str a),(1,str b),(3,str d)]=some [str a,str b,str [],str d]:=by
 rw [aB (o:=0) (n:=1) (g:=false) (by simp) rfl (by simp) (by simp),aB (o:=1) (n:=1) (g:=false) (by simp) rfl (by simp) (by simp),aB (o:=3) (n:=1) (g:=false) (by simp) rfl (by simp) (by simp)];simp
abbrev pv (p:Tg.Un.Pat):Value:=.agg #[str p.b,str p.m,str p.s,str p.t]
def iL (H:LH) (v:Value) (l:List Tg.Un.Pat):Prop:=
 (v=.slice none 0 0/\l= [])\/ ∃(k o c:Nat),v=.slice (some ⟨k,o,none⟩) l.length c/\(l≠ []-> ∃b:LB,H.get k=some b/\k<H.n/\ ∀(i:Nat) (h:i<l.length),o+i*4+4<=b.cells.length/\(b.cells.drop (o+i*4)).take 4= [str l[i].b,str l[i].m,str l[i].s,str l[i].t])
def dW (H:LH) (v:Value) (l:List (List UInt8)):Prop:=
 (v=.slice none 0 0/\l= [])\/ ∃(k o c:Nat),v=.slice (some ⟨k,o,none⟩) l.length c/\(l≠ []-> ∃b:LB,H.get k=some b/\k<H.n/\ ∀(i:Nat) (h:i<l.length),b.cells[o+i]?=some (str l[i]))
def qa (H:LH) (v:Value) (l:List Int):Prop:=
 (v=.slice none 0 0/\l= [])\/ ∃(k o c:Nat),v=.slice (some ⟨k,o,none⟩) l.length c/\(l≠ []-> ∃b:LB,H.get k=some b/\k<H.n/\ ∀(i:Nat) (h:i<l.length),b.cells[o+i]?=some (.int .i64 l[i]))
section
variable {H H':LH} {v:Value} {l:List Tg.Un.Pat} {xs:List (List UInt8)} {ns:List Int}
theorem iL.keep (h:iL H v l) (hn:H.n<=H'.n) (hk: ∀k,k<H.n->H'.get k=H.get k):iL H' v l:=by
 rcases h with h|⟨k,o,c,h1,h2⟩
 ·exact .inl h
 ·refine .inr ⟨k,o,c,h1,fun hne=>?_⟩;obtain⟨b,h2,h3,h4⟩:=h2 hne;exact⟨b,by rw [hk k h3];exact h2,by omega,h4⟩
theorem dW.keep (h:dW H v xs) (hn:H.n<=H'.n) (hk: ∀k,k<H.n->H'.get k=H.get k):dW H' v xs:=by
 rcases h with h|⟨k,o,c,h1,h2⟩
 ·exact .inl h
 ·refine .inr ⟨k,o,c,h1,fun hne=>?_⟩;obtain⟨b,h2,h3,h4⟩:=h2 hne;exact⟨b,by rw [hk k h3];exact h2,by omega,h4⟩
theorem qa.keep (h:qa H v ns) (hn:H.n<=H'.n) (hk: ∀k,k<H.n->H'.get k=H.get k):qa H' v ns:=by
 rcases h with h|⟨k,o,c,h1,h2⟩
 ·exact .inl h
 ·refine .inr ⟨k,o,c,h1,fun hne=>?_⟩;obtain⟨b,h2,h3,h4⟩:=h2 hne;exact⟨b,by rw [hk k h3];exact h2,by omega,h4⟩
theorem iL.of {k c:Nat} {rest:List Value} {e:TypeId} {rw_:Bool} (h:H.get k=some ⟨Tg.Un.pcells l++rest,e,rw_⟩) (hk:k<H.n):iL H (.slice (some ⟨k,0,none⟩) l.length c) l:=by
 refine .inr ⟨k,0,c,rfl,fun _=>⟨_,h,hk,fun i hi=>?_⟩⟩;have g:=Tg.Un.pcells_at hi rest;have hl:=Tg.Un.pcells_len l;simp only [Nat.zero_add];refine⟨?_,g⟩;rw [List.length_append,hl];omega
theorem dW.of {k c:Nat} {rest:List Value} {e:TypeId} {rw_:Bool} (h:H.get k=some ⟨xs.map str++rest,e,rw_⟩) (hk:k<H.n):dW H (.slice (some ⟨k,0,none⟩) xs.length c) xs:=by
 refine .inr ⟨k,0,c,rfl,fun _=>⟨_,h,hk,fun i hi=>?_⟩⟩;simp only [Nat.zero_add];rw [List.getElem?_append_left (by simpa using hi),List.getElem?_map,List.getElem?_eq_getElem hi];rfl
theorem qa.of {k c:Nat} {rest:List Value} {e:TypeId} {rw_:Bool} (h:H.get k=some ⟨ns.map (Value.int .i64)++rest,e,rw_⟩) (hk:k<H.n):qa H (.slice (some ⟨k,0,none⟩) ns.length c) ns:=by
 refine .inr ⟨k,0,c,rfl,fun _=>⟨_,h,hk,fun i hi=>?_⟩⟩;simp only [Nat.zero_add];rw [List.getElem?_append_left (by simpa using hi),List.getElem?_map,List.getElem?_eq_getElem hi];rfl
theorem iL.len (h:iL H v l):aI Tryz.prog .len [251] [v] H'=some (.int .i64 l.length,H'):=by
 rcases h with⟨rfl,rfl⟩|⟨k,o,c,rfl,h2⟩
 ·simp
 ·simp
theorem dW.len (h:dW H v xs):aI Tryz.prog .len [116] [v] H'=some (.int .i64 xs.length,H'):=by
 rcases h with⟨rfl,rfl⟩|⟨k,o,c,rfl,h2⟩
 ·simp
 ·simp
theorem qa.len (h:qa H v ns):aI Tryz.prog .len [170] [v] H'=some (.int .i64 ns.length,H'):=by
 rcases h with⟨rfl,rfl⟩|⟨k,o,c,rfl,h2⟩
 ·simp
 ·simp
theorem iL.at (h:iL H v l) {i:Nat} (hi:i<l.length): ∃k o,(∀H':LH,iu Tryz.prog 251 v (.int .i64 i) H'=some (ptr k o,H'))/\k<H.n/\ ∀H':LH,H'.get k=H.get k->
  gI Tryz.prog 158 (ptr k o) H'=some (pv l[i])/\gI Tryz.prog 9 (ptr k o) H'=some (str l[i].b)/\gI Tryz.prog 9 (ptr k (o+1)) H'=some (str l[i].m)/\gI Tryz.prog 9 (ptr k (o+2)) H'=some (str l[i].s)/\gI Tryz.prog 9 (ptr k (o+3)) H'=some (str l[i].t):=by
 rcases h with⟨rfl,rfl⟩|⟨k,o,c,rfl,h2⟩
 ·simp at hi
 ·obtain⟨b,h2,h3,h4⟩:=h2 (fun e=>by rw [e]at hi;simp at hi);obtain⟨g1,g2⟩:=h4 i hi;refine⟨k,o+i*4,fun H'=>?_,h3,fun H' e=>?_⟩
  ·have q:=eq_true (show(i:Int)<(l.length:Int) by omega);simp [q]
  ·rw [h2]at e
   have key: ∀j,j<4->b.cells[o+i*4+j]?= [str l[i].b,str l[i].m,str l[i].s,str l[i].t][j]?:=fun j hj=>by
    rw [<-g2,List.getElem?_take,if_pos hj,List.getElem?_drop]
   have k0:=key 0 (by decide);have k1:=key 1 (by decide);have k2:=key 2 (by decide);have k3:=key 3 (by decide);simp only [List.getElem?_cons_zero,List.getElem?_cons_succ,Nat.add_zero]at k0 k1 k2 k3;have l0:o+i*4<b.cells.length:=by omega
   have l1:o+i*4+1<b.cells.length:=by omega
   have l2:o+i*4+2<b.cells.length:=by omega
   have l3:o+i*4+3<b.cells.length:=by omega
   rw [List.getElem?_eq_getElem l0]at k0;rw [List.getElem?_eq_getElem l1]at k1;rw [List.getElem?_eq_getElem l2]at k2;rw [List.getElem?_eq_getElem l3]at k3;injection k0 with k0;injection k1 with k1;injection k2 with k2;injection k3 with k3;simp [e,g1,g2,k0,k1,k2,k3,l0,l1,l2,l3]
theorem dW.at (h:dW H v xs) {i:Nat} (hi:i<xs.length): ∃k o,(∀H':LH,iu Tryz.prog 116 v (.int .i64 i) H'=some (ptr k o,H'))/\k<H.n/\ ∀H':LH,H'.get k=H.get k->gI Tryz.prog 9 (ptr k o) H'=some (str xs[i]):=by
 rcases h with⟨rfl,rfl⟩|⟨k,o,c,rfl,h2⟩
 ·simp at hi
 ·obtain⟨b,h2,h3,h4⟩:=h2 (fun e=>by rw [e]at hi;simp at hi);have g1:=h4 i hi;refine⟨k,o+i,fun H'=>?_,h3,fun H' e=>?_⟩
  ·have q:=eq_true (show(i:Int)<(xs.length:Int) by omega);simp [q]
  ·rw [h2]at e;have l0:o+i<b.cells.length:=(List.getElem?_eq_some_iff.1 g1).1;rw [List.getElem?_eq_getElem l0]at g1;injection g1 with g1;simp [e,g1,l0]
theorem qa.at (h:qa H v ns) {i:Nat} (hi:i<ns.length): ∃k o,(∀H':LH,iu Tryz.prog 170 v (.int .i64 i) H'=some (ptr k o,H'))/\k<H.n/\ ∀H':LH,H'.get k=H.get k->gI Tryz.prog 3 (ptr k o) H'=some (.int .i64 ns[i]):=by
 rcases h with⟨rfl,rfl⟩|⟨k,o,c,rfl,h2⟩
 ·simp at hi
 ·obtain⟨b,h2,h3,h4⟩:=h2 (fun e=>by rw [e]at hi;simp at hi);have g1:=h4 i hi;refine⟨k,o+i,fun H'=>?_,h3,fun H' e=>?_⟩
  ·have q:=eq_true (show(i:Int)<(ns.length:Int) by omega);simp [q]
  ·rw [h2]at e;have l0:o+i<b.cells.length:=(List.getElem?_eq_some_iff.1 g1).1;rw [List.getElem?_eq_getElem l0]at g1;injection g1 with g1;simp [e,g1,l0]
end
def kJ:GA:=fun args H r H'=> ∃x y:Int,args= [.int .i64 x,.int .i64 y]/\r=.pan (.agg #[.int .i64 x,.int .i64 (if y=0 then 1 else y)])/\H'=H
theorem A1 {args:List Value} {H H':LH} {r:Res} (h:kJ args H r H'):cU Tryz.prog 199/\lJ Tryz.prog 127 199 args H r H':=by
 obtain⟨x,y,rfl,rfl,rfl⟩:=h;refine⟨⟨_,Tryz.func199,rfl,by decide⟩,fun ι w args' hrel h1 h2=>?_⟩
 have e:args'=#[.int .i64 x,.int .i64 y]:=by
  obtain⟨l⟩:=args'
  match l,h1 with
  | [u,v],_=>
   have e1:u=.int .i64 x:=aE (h2 0 _ _ rfl rfl) rfl;have e2:v=.int .i64 y:=aE (h2 1 _ _ rfl rfl) rfl;rw [e1,e2]
 subst e;refine(DL x y w).mono ?_;rintro e w' ⟨rfl,rfl⟩;exact⟨ι,⟨_,rfl,.flat _ rfl⟩,Out.refl hrel⟩
def Kk:List FuncId:=
 199::
 145::
 142::
 323::
 329::
 202::
 324::
 311::
 310::
 294::
 275::
 276::
 293::
 273::
 245::
 203::
 149::
 98::
 101::
 102::
 99::
 70::
 148::
 127::
 126::
 130::
 131::
 129::
 124::
 183::
 123::
 []
noncomputable def cC:PEnv:= { E:=EJ,pl:=EJ.loud,px:=(fun f=>if f=199 then some kJ else none),cat:=some 142,tF:=127,ps:=(fun f=>Kk.contains f) }
@[simp] theorem S2:cC.E=EJ:=rfl
@[simp] theorem QZ:cC.pl=EJ.loud:=rfl
@[simp] theorem Q0 {f:FuncId} :cC.ps f=Kk.contains f:=rfl
attribute [simp] Kk
theorem uu {j:J} (h:R Tryz.prog cC j):Sound Tryz.prog cC j:=by
 refine sound tOk mixed (fun f s hs args H r H' hr=>?_) (fun f hf=>?_) h
 ·unfold cC at hs;simp only at hs;split at hs
  ·rename_i e;injection hs with hs;subst hs;subst e;exact A1 hr
  ·cases hs
 ·have e:142=f:=Option.some.inj hf;subst e;exact IA
section
variable {H:LH} {s:List UInt8} {l:Nat}
theorem vL {x y:Int} :R Tryz.prog cC (.call 199 [.int .i64 x,.int .i64 y] H (.pan (.agg #[.int .i64 x,.int .i64 (if y=0 then 1 else y)])) H):=
 .px (s:=kJ) (by unfold cC;simp) ⟨x,y,rfl,rfl,rfl⟩
theorem fN {x y:Int} :R Tryz.prog cC (.call 145 [.bool true,.int .i64 x,.int .i64 y] H (.ret (.tuple #[])) H):=by
 refine bz Tryz.func145 rfl (Nat.le_of_ble_eq_true rfl) (by decide) (by kernel_rfl) rfl ?_;simp
theorem ib {x y:Int} (hy:y≠0):R Tryz.prog cC (.call 145 [.bool false,.int .i64 x,.int .i64 y] H (.pan (.agg #[.int .i64 x,.int .i64 y])) H):=by
 have ht:=vL (H:=H) (x:=x) (y:=y);rw [if_neg hy]at ht;refine bz Tryz.func145 rfl (Nat.le_of_ble_eq_true rfl) (by decide) (by kernel_rfl) rfl ?_;simp;refine au (g:=199) (first:=#[]) (caps:=#[]) (H1:=H) rfl rfl rfl (by simp) (by simpa using ht) ?_;simp
end
end Go.Proofs.YtbeoilidocfofaaGreatDoor
namespace Go.Lg
open Go.Tg Go.RowKit
def dh:Nat->Code->Code
 |0,c=>c
 |n+1,.seq _ b=>dh n b
 |_+1,c=>c
def gL:Nat->Code->Code->Code
 |0,_,K=>K
 |n+1,.seq a b,K=>.seq a (gL n b K)
 |_+1,c,_=>c
@[simp ↓] theorem EX {c:Code} :dh 0 c=c:=by cases c<;>rfl
@[simp ↓] theorem EY {n:Nat} {a b:Code} :dh (n+1) (.seq a b)=dh n b:=rfl
@[simp ↓] theorem HR {c K:Code} :gL 0 c K=K:=by cases c<;>rfl
@[simp ↓] theorem HT {n:Nat} {a b K:Code} :gL (n+1) (.seq a b) K=.seq a (gL n b K):=rfl
@[simp] theorem Kl {cs vs:List Value} (h:cs.length=vs.length):aW cs 0 vs=vs:=by
 unfold aW;simp [h]
section
variable {n m:Nat}
end
theorem iM {P:Program} {t:TypeId} {g:FuncId} {f cp:Array Value} {a b c:_} (hu:P.underlying t=some (.func a b c)):bL P .neq t (.func (.func g) f cp) .nilFunc=some (.bool true):=by
 simp [bL,hu]
theorem iN {P:Program} {t:TypeId} {g:FuncId} {f cp:Array Value} {a b c:_} (hu:P.underlying t=some (.func a b c)):bL P .eql t (.func (.func g) f cp) .nilFunc=some (.bool false):=by
 simp [bL,hu]
attribute [simp] iN
attribute [simp] iM
@[simp ↓] theorem HU {fr:Fr} :ev fr (.const .nilIface)=.nilIface:=rfl
@[simp ↓] theorem Km {fr:Fr} :ev fr (.const .nilFunc)=.nilFunc:=rfl
@[simp] theorem Dg:ao .nilIface=true:=by simp only [ao,az,aA]
@[simp] theorem Dh:aC .nilIface=true:=by simp only [aC]
@[simp] theorem EZ:aC .nilFunc=true:=by simp only [aC]
@[simp] theorem A4 {l:List UInt8} :aA (str l)=true:=by simp only [aA,str]
@[simp] theorem A5 {k:IntKind} {n:Int} :aA (.int k n)=true:=by simp only [aA]
@[simp] theorem xE {b:Bool} :aA (.bool b)=true:=by simp only [aA]
@[simp] theorem Ov:aA (.pointer none)=true:=by simp only [aA]
@[simp] theorem Di:aA (.slice none 0 0)=true:=by simp [aA]
@[simp] theorem Qe {P:Program} {t:TypeId} {z:List Value} (hp:bd P t=true) (hz:z.all aA=true):LW P t (some (.agg ⟨z⟩)) []=some (.agg ⟨z⟩):=by
 rw [vG (by simp only [gK]) hz,oF hp];rfl
section
variable {H H':LH} {b:LB} {l:Nat}
@[simp] theorem Kn (h:H.n<=H'.n):H.le (H'.new b)↔H.le H':=by
 constructor
 ·intro hl;exact⟨h,fun k hk=>by rw [<-hl.2 k hk,aa (by omega)]⟩
 ·intro hl;exact hl.new
@[simp] theorem Ko (h:H.n<=l):H.le (H'.set l b)↔H.le H':=by
 constructor
 ·intro hl;exact⟨hl.1,fun k hk=>by rw [<-hl.2 k hk,ah (by omega)]⟩
 ·intro hl;exact hl.set h
@[simp] theorem HV (h:H.n<=l):H.le (H'.kill l)↔H.le H':=by
 constructor
 ·intro hl;exact⟨hl.1,fun k hk=>by rw [<-hl.2 k hk,ck (by omega)]⟩
 ·intro hl;exact hl.kill h
end
section
variable {P:Program} {E:Ext} {fn:Func} {k:List Item} {fr:Fr} {H:LH} {Q:Value×LH->Prop} {c:Code}
theorem A6 (n:Nat) (Inv:Fr->LH->Prop) (h1: ∀fr H,Inv fr H->aZ P E fn (.code (dh n c)::k) fr H Q)
  (h2: ∀K,(∀fr H,Inv fr H->aZ P E fn (.code K::k) fr H Q)->aZ P E fn (.code (gL n c K)::k) fr H Q) (hc:gL n c (dh n c)=c):aZ P E fn (.code c::k) fr H Q:=by
 have:=h2 (dh n c) h1;rw [hc]at this;exact this
inductive Dir where
 |d (n:Nat)
 |l
 |t
 |e
 |b
def th:List Dir->Code->Code
 | [],c=>c
 |.d n::p,c=>th p (dh n c)
 |.l::p,.seq a _=>th p a
 |.t::p,.cond _ a _=>th p a
 |.e::p,.cond _ _ a=>th p a
 |.b::p,.block _ a=>th p a
 |_::_,c=>c
def iv:List Dir->Code->Code->Code
 | [],_,K=>K
 |.d n::p,c,K=>gL n c (iv p (dh n c) K)
 |.l::p,.seq a b,K=>.seq (iv p a K) b
 |.t::p,.cond x a b,K=>.cond x (iv p a K) b
 |.e::p,.cond x a b,K=>.cond x a (iv p b K)
 |.b::p,.block i a,K=>.block i (iv p a K)
 |_::_,c,_=>c
def cK:List Dir->Code->List Item->List Item
 | [],_,k=>k
 |.d n::p,c,k=>cK p (dh n c) k
 |.l::p,.seq a b,k=>cK p a (.code b::k)
 |.t::p,.cond _ a _,k=>cK p a k
 |.e::p,.cond _ _ a,k=>cK p a k
 |.b::p,.block i a,k=>cK p a (.inBlock i::k)
 |_::_,_,k=>k
section
variable {p:List Dir} {n i:Nat} {a b K:Code} {x:Operand}
@[simp ↓] theorem Qf:th [] c=c:=by cases c<;>rfl
@[simp ↓] theorem S3:th (.d n::p) c=th p (dh n c):=by cases c<;>rfl
@[simp ↓] theorem S4:th (.l::p) (.seq a b)=th p a:=rfl
@[simp ↓] theorem S5:th (.t::p) (.cond x a b)=th p a:=rfl
@[simp ↓] theorem S6:th (.e::p) (.cond x a b)=th p b:=rfl
@[simp ↓] theorem S7:th (.b::p) (.block i a)=th p a:=rfl
@[simp ↓] theorem Ow:iv [] c K=K:=by cases c<;>rfl
@[simp ↓] theorem Q1:iv (.d n::p) c K=gL n c (iv p (dh n c) K):=by cases c<;>rfl
@[simp ↓] theorem Q2:iv (.l::p) (.seq a b) K=.seq (iv p a K) b:=rfl
@[simp ↓] theorem Q3:iv (.t::p) (.cond x a b) K=.cond x (iv p a K) b:=rfl
@[simp ↓] theorem Q4:iv (.e::p) (.cond x a b) K=.cond x a (iv p b K):=rfl
@[simp ↓] theorem Q5:iv (.b::p) (.block i a) K=.block i (iv p a K):=rfl
@[simp ↓] theorem Q6:cK [] c k=k:=by cases c<;>rfl
@[simp ↓] theorem Ua:cK (.d n::p) c k=cK p (dh n c) k:=by cases c<;>rfl
@[simp ↓] theorem Ub:cK (.l::p) (.seq a b) k=cK p a (.code b::k):=rfl
@[simp ↓] theorem Uc:cK (.t::p) (.cond x a b) k=cK p a k:=rfl
@[simp ↓] theorem Ud:cK (.e::p) (.cond x a b) k=cK p b k:=rfl
@[simp ↓] theorem Ue:cK (.b::p) (.block i a) k=cK p a (.inBlock i::k):=rfl
end
end
end Go.Lg
namespace Go.Proofs.YtbeoilidocfofaaGreatDoor
open Go.Lg Go.Tg
section
variable {H:LH} {s t:List UInt8} {c:UInt8} {p:Tg.Un.Pat}
theorem xF:LC Tryz.prog EJ 262 [.int .u8 c.toNat] H=some (.bool (decide ((97:Int)<=c.toNat)&&decide ((c.toNat:Int)<=122)),H):=by
 refine ag rfl Tryz.func262 rfl (Nat.le_of_ble_eq_true rfl) (by decide) (by kernel_rfl) rfl ?_;by_cases h1:(97:Int)<=c.toNat<;>by_cases h2:(c.toNat:Int)<=122<;>simp [h1,h2]
theorem xG:LC Tryz.prog EJ 230 [.int .u8 c.toNat] H=some (.bool (decide ((65:Int)<=c.toNat)&&decide ((c.toNat:Int)<=90)),H):=by
 refine ag rfl Tryz.func230 rfl (Nat.le_of_ble_eq_true rfl) (by decide) (by kernel_rfl) rfl ?_;by_cases h1:(65:Int)<=c.toNat<;>by_cases h2:(c.toNat:Int)<=90<;>simp [h1,h2]
theorem uv:LC Tryz.prog EJ 234 [.int .u8 c.toNat] H=some (.bool (Tg.Un.letter c),H):=by
 refine ag rfl Tryz.func234 rfl (Nat.le_of_ble_eq_true rfl) (by decide) (by kernel_rfl) rfl ?_;have h1:=fun H:LH=>xF (H:=H) (c:=c);have h2:=fun H:LH=>xG (H:=H) (c:=c);unfold Tg.Un.letter;cases e1:(decide ((97:Int)<=c.toNat)&&decide ((c.toNat:Int)<=122))<;>rw [e1]at h1<;>
 cases e2:(decide ((65:Int)<=c.toNat)&&decide ((c.toNat:Int)<=90))<;>rw [e2]at h2<;>simp [h1,h2]
theorem oK:LC Tryz.prog EJ 185 [.int .u8 c.toNat] H=some (.bool (Tg.Un.letter c),H):=by
 refine ag rfl Tryz.func185 rfl (Nat.le_of_ble_eq_true rfl) (by decide) (by kernel_rfl) rfl ?_;have h1:=fun H:LH=>uv (H:=H) (c:=c);simp [h1]
theorem E0:LC Tryz.prog EJ 237 [pv p] H=some (.bool (Tg.Un.good p),H):=by
 refine ag rfl Tryz.func237 rfl (Nat.le_of_ble_eq_true rfl) (by decide) (by kernel_rfl) rfl ?_;unfold Tg.Un.good;by_cases h1:1<=p.b.length
 ·have q1:=eq_true (show(1:Int)<=(p.b.length:Int) by omega);by_cases h2:p.b.length<=64
  ·have q2:=eq_true (show(p.b.length:Int)<=64 by omega);by_cases h3:p.m.length=p.b.length
   ·have q3:=eq_true (show(p.m.length:Int)=(p.b.length:Int) by omega);simp [h1,h2,h3,q1,q2,q3]
   ·have q3:=eq_false (show¬(p.m.length:Int)=(p.b.length:Int) by omega);simp [h1,h2,h3,q1,q2,q3]
  ·have q2:=eq_false (show¬(p.b.length:Int)<=64 by omega);simp [h1,h2,q1,q2]
 ·have q1:=eq_false (show¬(1:Int)<=(p.b.length:Int) by omega);simp [h1,q1]
theorem oL (hs:s.length<=1048576):LC Tryz.prog EJ 240 [str s,pv p] H=some (.int .i64 (Tg.Un.begins p.s s),H):=by
 refine ag rfl Tryz.func240 rfl (Nat.le_of_ble_eq_true rfl) (by decide) (by kernel_rfl) rfl ?_;obtain⟨x,hx⟩: ∃x,x=Tg.Un.begins p.s s:=⟨_,rfl⟩
 rw [<-hx];simp;refine aK (fun(i:Nat) fr' H'=>fr' 0=str s/\fr' 3=ptr H.n 0/\fr' 5=.int .i64 i/\i<=s.length/\x=i+Tg.Un.begins p.s (s.drop i)/\H'=H.new ⟨[str p.b,str p.m,str p.s,str p.t],158,true⟩) (fun i=>s.length-i) 0 ⟨by simp,by simp,by simp,Nat.zero_le _,by rw [hx];simp,by simp⟩ ?_;rintro i fr' H' ⟨h0,h3,h5,hi,hc,rfl⟩ ih;by_cases hlt:i<s.length
 ·have q:=eq_true (show(i:Int)<(s.length:Int) by omega);have hat:at_ s (i:Int)=s[i]:=dw hlt;have hw:IntKind.i64.wrap ((i:Int)+1)=((i+1:Nat):Int):=by rw [wrapI (by omega) (by omega)];omega
  rw [List.drop_eq_getElem_cons hlt]at hc;have hix:=QY p.s s[i];unfold Tg.Un.begins at hc;generalize s[i]=b at*;cases hb:p.s.contains b with
  |true=>
   rw [hb,if_pos rfl]at hc;rw [hb]at hix;have qq:=eq_true (of_decide_eq_true hix.symm);simp [h0,h3,h5,q,hat,qq];refine ih (i+1) _ _ (by omega) ⟨?_,?_,?_,by omega,by omega,rfl⟩
   all_goals simp [h0,h3,hw]
  |false=>
   rw [hb,if_neg (by decide)]at hc;rw [hb]at hix;have qq:=eq_false (of_decide_eq_false hix.symm);simp [h0,h3,h5,q,hat,qq,hc]
 ·have q:=eq_false (show¬(i:Int)<(s.length:Int) by omega);rw [List.drop_of_length_le (by omega)]at hc;have hc:x=i:=by rw [hc];simp [Tg.Un.begins]
  simp [h0,h3,h5,q,hc]
theorem A7 {a b:UInt8} :bAnd .u8 (a.toNat:Int) (b.toNat:Int)=((a&&&b).toNat:Int):=by
 have h1:=a.toNat_lt;have h2:=b.toNat_lt;unfold bAnd;rw [BitVec.toNat_and,show IntKind.u8.bits=8 from rfl,ofInt_nat,ofInt_nat,Nat.mod_eq_of_lt (by omega),Nat.mod_eq_of_lt (by omega),UInt8.toNat_and];have:=Nat.and_le_left (n:=a.toNat) (m:=b.toNat);rw [show IntKind.u8.wrap ((a.toNat&&&b.toNat:Nat):Int)=((a.toNat&&&b.toNat:Nat):Int)%256 from IntKind.wrap_u8 _];omega
theorem E3 (hs:s.length<=1048576) (hb:p.b.length<=1048576) (hm:p.m.length=p.b.length):LC Tryz.prog EJ 238 [str s,pv p] H=some (.tuple #[.int .i64 (Tg.Un.fitN (Tg.Un.rest p s) p.b p.m).1,.bool (Tg.Un.fitN (Tg.Un.rest p s) p.b p.m).2],H):=by
 refine ag rfl Tryz.func238 rfl (Nat.le_of_ble_eq_true rfl) (by decide) (by kernel_rfl) rfl ?_;have hbl:=Tg.Un.begins_le p.s s;have h1:=fun H:LH=>oL (H:=H) (s:=s) (p:=p) hs;obtain⟨r,hr⟩: ∃r,r=Tg.Un.rest p s:=⟨_,rfl⟩
 have hr2:s.drop (Tg.Un.begins p.s s)=r:=hr.symm;have hrl:r.length<=1048576:=by rw [hr];unfold Tg.Un.rest;simp;omega
 rw [<-hr];obtain⟨x,hx⟩: ∃x,x=Tg.Un.fitN r p.b p.m:=⟨_,rfl⟩
 rw [<-hx];have q0:=eq_true (show(Tg.Un.begins p.s s:Int)<=(s.length:Int) by omega);obtain⟨n,hn⟩: ∃n,n=min r.length p.b.length:=⟨_,rfl⟩
 have hmin:(if(p.b.length:Int)<(r.length:Int)then(p.b.length:Int)else(r.length:Int))=(n:Int):=by split<;>omega
 have hmin2:(if p.b.length<r.length then(p.b.length:Int)else(r.length:Int))=(n:Int):=by split<;>omega
 simp [h1,q0,hr2,hmin,hmin2];refine aK (fun(i:Nat) fr' H'=>fr' 0=str r/\fr' 3=ptr H.n 0/\fr' 6=.int .i64 n/\fr' 19=.int .i64 n/\fr' 20=.int .i64 i/\i<=n/\x=(i+(Tg.Un.fitN (r.drop i) (p.b.drop i) (p.m.drop i)).1,(Tg.Un.fitN (r.drop i) (p.b.drop i) (p.m.drop i)).2)/\H'=H.new ⟨[str p.b,str p.m,str p.s,str p.t],158,true⟩) (fun i=>n-i) 0 ⟨by simp,by simp,by simp,by simp,by simp,Nat.zero_le _,by rw [hx];simp,by simp⟩ ?_;rintro i fr' H' ⟨g0,g3,g6,g19,g20,hi,hc,rfl⟩ ih;by_cases hlt:i<n
 ·have q:=eq_true (show(i:Int)<(n:Int) by omega);have l1:i<r.length:=by omega
  have l2:i<p.b.length:=by omega
  have l3:i<p.m.length:=by omega
  have hat:at_ r (i:Int)=r[i]:=dw l1;have hat2:at_ p.b (i:Int)=p.b[i]:=dw l2;have hat3:at_ p.m (i:Int)=p.m[i]:=dw l3;have q1:=eq_true (show(i:Int)<(r.length:Int) by omega);have q2:=eq_true (show(i:Int)<(p.b.length:Int) by omega);have q3:=eq_true (show(i:Int)<(p.m.length:Int) by omega);have hw:IntKind.i64.wrap ((i:Int)+1)=((i+1:Nat):Int):=by rw [wrapI (by omega) (by omega)];omega
  rw [List.drop_eq_getElem_cons l1,List.drop_eq_getElem_cons l2,List.drop_eq_getElem_cons l3]at hc;generalize r[i]=c at*;generalize p.b[i]=b at*;generalize p.m[i]=m at*;unfold Tg.Un.fitN at hc;by_cases hcb:c&&&m=b
  ·rw [if_pos hcb]at hc;simp [g0,g3,g6,g19,g20,q,hat,hat2,hat3,q1,q2,q3,A7,hcb];refine ih (i+1) _ _ (by omega) ⟨?_,?_,?_,?_,?_,by omega,by rw [hc];simp only [Prod.mk.injEq];exact⟨by omega,trivial⟩,rfl⟩
   all_goals simp [g0,g3,g6,g19,g20,hw]
  ·rw [if_neg hcb]at hc;have hne:=HQ hcb;simp only [UInt8.toNat_and]at hne;simp [g0,g3,g6,g19,g20,q,hat,hat2,hat3,q1,q2,q3,A7,hne,hc]
 ·have q:=eq_false (show¬(i:Int)<(n:Int) by omega);have hin:i=n:=by omega
  have he:Tg.Un.fitN (r.drop i) (p.b.drop i) (p.m.drop i)=(0,true):=by
   by_cases h:r.length<=i
   ·rw [List.drop_of_length_le h];unfold Tg.Un.fitN;rfl
   ·rw [show p.b.drop i= [] from List.drop_of_length_le (by omega)];unfold Tg.Un.fitN;split<;>simp_all
  rw [he]at hc;subst hin;simp [g0,g3,g6,g19,g20,q,hc]
theorem sA (hs:s.length<=1048576):LC Tryz.prog EJ 190 [str s,pv p] H=some (.bool (Tg.Un.hits p s),H):=by
 refine ag rfl Tryz.func190 rfl (Nat.le_of_ble_eq_true rfl) (by decide) (by kernel_rfl) rfl ?_;have h1:=fun H:LH=>E0 (H:=H) (p:=p);unfold Tg.Un.hits;cases hg:Tg.Un.good p with
 |false=>rw [hg]at h1;simp [h1]
 |true=>
  rw [hg]at h1;obtain⟨⟨g1,g2⟩,g3⟩:(1<=p.b.length/\p.b.length<=64)/\p.m.length=p.b.length:=by simpa [Tg.Un.good]using hg
  have h2:=fun H:LH=>E3 (H:=H) (s:=s) (p:=p) hs (by omega) g3;have e2:=Tg.Un.fitN_2 (Tg.Un.rest p s) p.b p.m;have e1:=Tg.Un.fitN_1 (Tg.Un.rest p s) p.b p.m g3;generalize Tg.Un.fitN (Tg.Un.rest p s) p.b p.m=x at*;obtain⟨k,f⟩:=x;simp only at e1 e2;subst e2;cases hf:Tg.Un.fit (Tg.Un.rest p s) p.b p.m with
  |false=>rw [hf]at h2;simp [h1,h2]
  |true=>
   rw [hf]at h2;have e1:=e1 hf;subst e1;by_cases hl:p.b.length<=(Tg.Un.rest p s).length
   ·have q:=eq_true (show((min (Tg.Un.rest p s).length p.b.length:Nat):Int)=(p.b.length:Int) by omega);simp [h1,h2,q,hl]
   ·have q:=eq_false (show¬((min (Tg.Un.rest p s).length p.b.length:Nat):Int)=(p.b.length:Int) by omega);simp [h1,h2,q,hl]
theorem jJ (hs:s.length<=1048576):LC Tryz.prog EJ 136 [str s,pv p] H=some (.bool (Tg.Un.hits p s),H):=by
 refine ag rfl Tryz.func136 rfl (Nat.le_of_ble_eq_true rfl) (by decide) (by kernel_rfl) rfl ?_;have h1:=fun H:LH=>sA (H:=H) (s:=s) (p:=p) hs;simp [h1]
theorem xH (hs:s.length<=1048576):LC Tryz.prog EJ 193 [str s,pv p] H=some (.int .i64 (Tg.Un.begins p.s s),H):=by
 refine ag rfl Tryz.func193 rfl (Nat.le_of_ble_eq_true rfl) (by decide) (by kernel_rfl) rfl ?_;have h1:=fun H:LH=>oL (H:=H) (s:=s) (p:=p) hs;simp [h1]
end
end Go.Proofs.YtbeoilidocfofaaGreatDoor
namespace Tg.Un
def idx {α:Type} (q:α->Bool):List α->Nat->Int
 | [],_=> -1
 |x::l,i=>if q x=true then i else idx q l (i+1)
theorem idx_any {α:Type} (q:α->Bool): ∀(l:List α) (i:Nat),decide (0<=idx q l i)=l.any q
 | [],i=>by simp [idx]
 |x::l,i=>by
  unfold idx;cases h:q x with
  |true=>rw [if_pos rfl];simp [h]
  |false=>rw [if_neg (by decide),idx_any q l (i+1)];simp [h]
def or_:List (List UInt8)->List UInt8
 | []=> []
 |s::l=>if s= []then or_ l else s
end Tg.Un
namespace Go.Proofs.YtbeoilidocfofaaGreatDoor
open Go.Lg Go.Tg
section
variable {H:LH} {s t:List UInt8} {c:UInt8} {p:Tg.Un.Pat} {v:Value} {l:List Tg.Un.Pat} {xs:List (List UInt8)}
theorem A8 {k:Nat} {e:TypeId} (hs:s.length<=1048576) (hk:H.get k=some ⟨[str s],e,true⟩) (hkn:k<H.n):LC Tryz.prog EJ 318 [pv p,ptr k 0] H=some (.bool (Tg.Un.hits p s),H):=by
 refine ag rfl Tryz.func318 rfl (Nat.le_of_ble_eq_true rfl) (by decide) (by kernel_rfl) rfl ?_;have h1:=fun H:LH=>sA (H:=H) (s:=s) (p:=p) hs;have hkn':k≠H.n:=by omega
 simp [h1,hk,aa,hkn']
theorem xI {k:Nat} {e:TypeId} (hr:iL H v l) (hl:l.length<=1000000) (hs:s.length<=1048576) (hk:H.get k=some ⟨[str s],e,true⟩) (hkn:k<H.n):
  LC Tryz.prog EJ 317 [v,.func (.func 318) #[] #[ptr k 0]] H=some (.int .i64 (Tg.Un.at_ s l 0),H):=by
 refine ag rfl Tryz.func317 rfl (Nat.le_of_ble_eq_true rfl) (by decide) (by kernel_rfl) rfl ?_;obtain⟨x,hx⟩: ∃x,x=Tg.Un.at_ s l 0:=⟨_,rfl⟩
 rw [<-hx];simp [hr.len];refine aK (fun(i:Nat) fr' H'=>fr' 0=v/\fr' 1=.func (.func 318) #[] #[ptr k 0]/\fr' 7=.int .i64 l.length/\fr' 8=.int .i64 i/\i<=l.length/\x=Tg.Un.at_ s (l.drop i) i/\H'=H) (fun i=>l.length-i) 0 ⟨by simp,by simp,by simp,by simp,Nat.zero_le _,hx,rfl⟩ ?_;rintro i fr' H' ⟨h0,h1,h7,h8,hi,hc,rfl⟩ ih;by_cases hlt:i<l.length
 ·have q:=eq_true (show(i:Int)<(l.length:Int) by omega);have hw:IntKind.i64.wrap ((i:Int)+1)=((i+1:Nat):Int):=by rw [wrapI (by omega) (by omega)];omega
  obtain⟨k2,o,g1,g2,g3⟩:=hr.at hlt;obtain⟨g4,_⟩:=g3 H' rfl;have ho:=A8 (H:=H') (p:=l[i]) hs hk hkn;rw [List.drop_eq_getElem_cons hlt]at hc;generalize l[i]=a at*;unfold Tg.Un.at_ at hc;cases hf:Tg.Un.hits a s with
  |true=>
   rw [hf,if_pos rfl]at hc;rw [hf]at ho;subst hc;simp [h0,h1,h7,h8,q,hlt,g1,g4,ho]
  |false=>
   rw [hf,if_neg (by decide)]at hc;rw [hf]at ho;simp [h0,h1,h7,h8,q,hlt,g1,g4,ho];refine ih (i+1) _ _ (by omega) ⟨?_,?_,?_,?_,by omega,hc,rfl⟩
   all_goals simp [h0,h1,h7,hw]
 ·have q:=eq_false (show¬(i:Int)<(l.length:Int) by omega);rw [List.drop_of_length_le (by omega)]at hc;have hc:x= -1:=hc;subst hc;simp [h0,h1,h7,h8,q,hlt]
theorem E4 (hr:iL H v l) (hl:l.length<=1000000) (hs:s.length<=1048576):LC Tryz.prog EJ 301 [str s,v] H=some (.int .i64 (Tg.Un.at_ s l 0),H):=by
 refine ag rfl Tryz.func301 rfl (Nat.le_of_ble_eq_true rfl) (by decide) (by kernel_rfl) rfl ?_;have hr':iL (H.new ⟨[str s],9,true⟩) v l:=hr.keep (Nat.le_succ _) (fun k hk=>aa (by omega));have h1:=xI (k:=H.n) (e:=9) hr' hl hs (by simp) (by simp);simp [h1]
theorem A9 (hr:iL H v l) (hl:l.length<=1000000) (hs:s.length<=1048576):LC Tryz.prog EJ 278 [str s,v] H=some (str (Tg.Un.typeOf s l),H):=by
 refine ag rfl Tryz.func278 rfl (Nat.le_of_ble_eq_true rfl) (by decide) (by kernel_rfl) rfl ?_;have h1:=E4 hr hl hs;by_cases hx:Tg.Un.at_ s l 0<0
 ·rw [Tg.Un.at_none hx];simp [h1,hx]
 ·obtain⟨k,hk,e1,e2⟩:=Tg.Un.at_some (s:=s) (l:=l) (i:=0) (by omega);rw [e2];rw [e1]at h1;obtain⟨k2,o,g1,g2,g3⟩:=hr.at hk;obtain⟨_,_,_,_,g4⟩:=g3 H rfl;have q:=eq_false (show¬((0+k:Nat):Int)<0 by omega);rw [Nat.zero_add]at h1 q;simp [h1,q,g1,g4]
theorem xJ {g:FuncId} {caps:List Value} {q:List UInt8->Bool} (hr:dW H v xs) (hl:xs.length<=1000000) (hg: ∀x∈xs,LC Tryz.prog EJ g (str x::caps) H=some (.bool (q x),H)):
  LC Tryz.prog EJ 134 [v,.func (.func g) #[] ⟨caps⟩] H=some (.int .i64 (Tg.Un.idx q xs 0),H):=by
 refine ag rfl Tryz.func134 rfl (Nat.le_of_ble_eq_true rfl) (by decide) (by kernel_rfl) rfl ?_;obtain⟨x,hx⟩: ∃x,x=Tg.Un.idx q xs 0:=⟨_,rfl⟩
 rw [<-hx];simp [hr.len];refine aK (fun(i:Nat) fr' H'=>fr' 0=v/\fr' 1=.func (.func g) #[] ⟨caps⟩/\fr' 7=.int .i64 xs.length/\fr' 8=.int .i64 i/\i<=xs.length/\x=Tg.Un.idx q (xs.drop i) i/\H'=H) (fun i=>xs.length-i) 0 ⟨by simp,by simp,by simp,by simp,Nat.zero_le _,hx,rfl⟩ ?_;rintro i fr' H' ⟨h0,h1,h7,h8,hi,hc,rfl⟩ ih;have hcal: ∀a H2,bE Tryz.prog (LC Tryz.prog EJ) (.func (.func g) #[] ⟨caps⟩) [a] H2=LC Tryz.prog EJ g (a::caps) H2:=fun a H2=>rfl;by_cases hlt:i<xs.length
 ·have qq:=eq_true (show(i:Int)<(xs.length:Int) by omega);have hw:IntKind.i64.wrap ((i:Int)+1)=((i+1:Nat):Int):=by rw [wrapI (by omega) (by omega)];omega
  obtain⟨k2,o,g1,g2,g3⟩:=hr.at hlt;have g4:=g3 H' rfl;have ho:=hg xs[i] (List.getElem_mem hlt);rw [List.drop_eq_getElem_cons hlt]at hc;generalize xs[i]=a at*;unfold Tg.Un.idx at hc;cases hf:q a with
  |true=>
   rw [hf,if_pos rfl]at hc;rw [hf]at ho;subst hc;simp [h0,h1,h7,h8,qq,hlt,g1,g4,hcal,ho]
  |false=>
   rw [hf,if_neg (by decide)]at hc;rw [hf]at ho;simp [h0,h1,h7,h8,qq,hlt,g1,g4,hcal,ho];refine ih (i+1) _ _ (by omega) ⟨?_,?_,?_,?_,by omega,hc,rfl⟩
   all_goals simp [h0,h1,h7,hw]
 ·have qq:=eq_false (show¬(i:Int)<(xs.length:Int) by omega);rw [List.drop_of_length_le (by omega)]at hc;have hc:x= -1:=hc;subst hc;simp [h0,h1,h7,h8,qq,hlt]
theorem jK {g:FuncId} {caps:List Value} {q:List UInt8->Bool} (hr:dW H v xs) (hl:xs.length<=1000000) (hg: ∀x∈xs,LC Tryz.prog EJ g (str x::caps) H=some (.bool (q x),H)):
  LC Tryz.prog EJ 93 [v,.func (.func g) #[] ⟨caps⟩] H=some (.bool (xs.any q),H):=by
 refine ag rfl Tryz.func93 rfl (Nat.le_of_ble_eq_true rfl) (by decide) (by kernel_rfl) rfl ?_;have h1:=xJ hr hl hg;have h2:=Tg.Un.idx_any q xs 0;rw [<-h2];simp [h1]
theorem Ox (hr:dW H v xs) (hl:xs.length<=1000000):LC Tryz.prog EJ 272 [v] H=some (str (Tg.Un.or_ xs),H):=by
 refine ag rfl Tryz.func272 rfl (Nat.le_of_ble_eq_true rfl) (by decide) (by kernel_rfl) rfl ?_;obtain⟨x,hx⟩: ∃x,x=Tg.Un.or_ xs:=⟨_,rfl⟩
 rw [<-hx];simp [hr.len];refine aK (fun(i:Nat) fr' H'=>fr' 0=v/\fr' 3=str []/\fr' 6=v/\fr' 7=.int .i64 xs.length/\fr' 8=.int .i64 i/\i<=xs.length/\x=Tg.Un.or_ (xs.drop i)/\H'=H) (fun i=>xs.length-i) 0 ⟨by simp,by simp,by simp,by simp,by simp,Nat.zero_le _,hx,rfl⟩ ?_;rintro i fr' H' ⟨h0,h3,h6,h7,h8,hi,hc,rfl⟩ ih;by_cases hlt:i<xs.length
 ·have qq:=eq_true (show(i:Int)<(xs.length:Int) by omega);have hw:IntKind.i64.wrap ((i:Int)+1)=((i+1:Nat):Int):=by rw [wrapI (by omega) (by omega)];omega
  obtain⟨k2,o,g1,g2,g3⟩:=hr.at hlt;have g4:=g3 H' rfl;rw [List.drop_eq_getElem_cons hlt]at hc;generalize xs[i]=a at*;unfold Tg.Un.or_ at hc;by_cases hf:a= []
  ·subst hf;rw [if_pos rfl]at hc;simp [h0,h3,h6,h7,h8,qq,hlt,g1,g4];refine ih (i+1) _ _ (by omega) ⟨?_,?_,?_,?_,?_,by omega,hc,rfl⟩
   all_goals simp [h0,h3,h6,h7,hw]
  ·rw [if_neg hf]at hc;subst hc;simp [h0,h3,h6,h7,h8,qq,hlt,g1,g4,hf]
 ·have qq:=eq_false (show¬(i:Int)<(xs.length:Int) by omega);rw [List.drop_of_length_le (by omega)]at hc;have hc:x= []:=hc;subst hc;simp [h0,h3,h6,h7,h8,qq,hlt]
end
def iB (l:List UInt8):List Value:=l.map fun b=>Value.int .u8 b.toNat
theorem qd (l:List UInt8):(iB l).length=l.length:=by simp [iB]
theorem nh {H:LH} {k i:Nat} {l:List UInt8} {e:TypeId} (hk:H.get k=some ⟨iB l,e,true⟩) (hi:i<l.length) (b:UInt8):lst Tryz.prog 5 (ptr k i) (.int .u8 b.toNat) H=some (undef,H.set k ⟨iB (l.set i b),e,true⟩):=by
 rw [sd hk rfl (by kernel_rfl) rfl (by rw [qd];exact hi)];simp [iB,List.map_set]
theorem A_ {H:LH} {k i:Nat} {l:List UInt8} {e:TypeId} {r:Bool} (hk:H.get k=some ⟨iB l,e,r⟩) (hi:i<l.length):gI Tryz.prog 5 (ptr k i) H=some (.int .u8 l[i].toNat):=by
 rw [fk hk,show aF Tryz.prog 5=some false by kernel_rfl,hZ];simp [iB,hi]
theorem sB {f:UInt8->UInt8} {s r:List UInt8} {i:Nat} (hr:r.length=s.length) (hi:i<s.length):((s.take i).map f++r.drop i).set i (f s[i])=(s.take (i+1)).map f++r.drop (i+1):=by
 have h1:((s.take i).map f).length=i:=by simp;omega
 rw [List.set_append_right _ _ (by omega),h1,Nat.sub_self,List.drop_eq_getElem_cons (by omega:i<r.length),List.set_cons_zero,List.take_add_one,List.getElem?_eq_getElem hi,List.map_append,List.append_assoc];rfl
theorem vM {f:UInt8->UInt8} {s r:List UInt8} {i:Nat} (hr:r.length=s.length) (hi:i<s.length):((s.take i).map f++r.drop i)[i]'(by simp;omega)=r[i]:=by
 rw [List.getElem_append_right (by simp;omega)];simp [Nat.min_eq_left (Nat.le_of_lt hi)]
theorem vN: ∀l:List UInt8,vF (iB l)=some l
 | []=>rfl
 |b::l=>by
  show(fc (.int .u8 b.toNat)).bind _=_;have:fc (.int .u8 (b.toNat:Int))=some b:=by simp [fc]
  rw [this];show(vF (iB l)).map (b:: ·)=_;rw [vN l];rfl
theorem jL {H:LH} {k c:Nat} {l:List UInt8} {e:TypeId} {r:Bool} (hk:H.get k=some ⟨iB l,e,r⟩):cg Tryz.prog 49 9 (.slice (some ⟨k,0,none⟩) l.length c) H=some (str l):=
 sj (b:=⟨iB l,e,r⟩) Tryz.underlying49 Tryz.underlying9 Tryz.underlying5 hk (by rw [qd];omega) (by
  show vF (((iB l).drop 0).take l.length)=some l;rw [List.drop_zero,List.take_of_length_le (by rw [qd];exact Nat.le_refl _),vN])
structure TagAt (H:LH) (s:List UInt8) (i:Nat) (H':LH):Prop where
 n:H'.n=H.n+3
 z:H'.get H.n=some ⟨[str [],str [],str [],str []],158,true⟩
 b:H'.get (H.n+1)=some ⟨iB ((s.take i).map Tg.Un.up++s.drop i),MK Tryz.prog 5,true⟩
 m:H'.get (H.n+2)=some ⟨iB ((s.take i).map Tg.Un.msk++(List.replicate s.length 0).drop i),5,true⟩
 old: ∀l,l<H.n->H'.get l=H.get l
section
variable {H:LH} {s t:List UInt8}
theorem uw (hs:s.length<=1000000):LC Tryz.prog EJ 137 [str s,str t] H=some (pv (Tg.Un.tag s t),H):=by
 refine ag rfl Tryz.func137 rfl (Nat.le_of_ble_eq_true rfl) (by decide) (by kernel_rfl) rfl ?_;have qm:=eq_true (show s.length<=maxLen by unfold maxLen;omega);have q0:=eq_true (show(0:Int)<=(s.length:Int) by omega);have q1:=eq_true (show s.length<=1048576 by omega);have q2:=eq_true (show(s.length:Int)<=1048576 by omega);simp [qm,q0,q1,q2];refine aK (fun(i:Nat) fr' H'=>fr' 0=str s/\fr' 1=str t/\fr' 4=ptr H.n 0/\fr' 5=sl (H.n+1) s.length s.length/\fr' 6=sl (H.n+2) s.length s.length/\fr' 14=.int .i64 s.length/\fr' 15=.int .i64 i/\i<=s.length/\TagAt H s i H') (fun i=>s.length-i) 0 ⟨by simp,by simp,by simp,by simp,by simp,by simp,by simp,Nat.zero_le _,⟨by simp,?_,?_,?_,fun l hl=>?_⟩⟩ ?_
 ·rw [aa (by simp;omega),aa (by simp),ak]
 ·rw [aa (by simp),show H.n+1=(H.new ⟨[str [],str [],str [],str []],158,true⟩).n from rfl,ak];simp [iB]
 ·rw [show H.n+2=((H.new ⟨[str [],str [],str [],str []],158,true⟩).new ⟨s.map fun b=>Value.int .u8 b.toNat,MK Tryz.prog 5,true⟩).n from rfl,ak];simp [iB]
 ·rw [aa (by simp;omega),aa (by simp;omega),aa (by omega)]
 rintro i fr' H' ⟨g0,g1,g4,g5,g6,g14,g15,hi,hT⟩ ih;obtain⟨hn,hz,hb,hm,ho⟩:=hT;by_cases hlt:i<s.length
 ·have q:=eq_true (show(i:Int)<(s.length:Int) by omega);have hw:IntKind.i64.wrap ((i:Int)+1)=((i+1:Nat):Int):=by rw [wrapI (by omega) (by omega)];omega
  have hL:=fun H:LH=>oK (H:=H) (c:=s[i]);have lm:i<((s.take i).map Tg.Un.msk++(List.replicate s.length (0:UInt8)).drop i).length:=by simp;omega
  have lb:i<((s.take i).map Tg.Un.up++s.drop i).length:=by simp;omega
  obtain⟨M,hM⟩: ∃M,M=(s.take i).map Tg.Un.msk++(List.replicate s.length (0:UInt8)).drop i:=⟨_,rfl⟩
  have s1:lst Tryz.prog 5 (ptr (H.n+2) i) (.int .u8 255) H'=some (undef,H'.set (H.n+2) ⟨iB (((s.take i).map Tg.Un.msk++(List.replicate s.length (0:UInt8)).drop i).set i 255),5,true⟩):=nh (H:=H') hm lm 255;have e1:(H'.set (H.n+2) ⟨iB (((s.take i).map Tg.Un.msk++(List.replicate s.length (0:UInt8)).drop i).set i 255),5,true⟩).get (H.n+1)=some ⟨iB ((s.take i).map Tg.Un.up++s.drop i),MK Tryz.prog 5,true⟩:=by rw [ah (by omega)];exact hb
  have s2:=A_ (i:=i) e1 lb;rw [vM rfl hlt]at s2;have hmk:=sB (f:=Tg.Un.msk) (s:=s) (r:=List.replicate s.length (0:UInt8)) (by simp) hlt;have hup:=sB (f:=Tg.Un.up) (s:=s) (r:=s) rfl hlt;cases hc:Tg.Un.letter s[i]with
  |false=>
   rw [hc]at hL;have u1:Tg.Un.up s[i]=s[i]:=by unfold Tg.Un.up;rw [hc];rfl
   have u2:Tg.Un.msk s[i]=255:=by unfold Tg.Un.msk;rw [hc];rfl
   rw [u2]at hmk;rw [hmk]at s1 e1 s2;generalize hB:(s.take (i+1)).map Tg.Un.msk++(List.replicate s.length (0:UInt8)).drop (i+1)=M' at*;simp [g0,g1,g4,g5,g6,g14,g15,q,s1,s2,hL];refine ih (i+1) _ _ (by omega) ⟨?_,?_,?_,?_,?_,?_,?_,by omega,⟨?_,?_,?_,?_,fun l hl=>?_⟩⟩
   ·simp [g0]
   ·simp [g1]
   ·simp [g4]
   ·simp [g5]
   ·simp [g6]
   ·simp [g14]
   ·simp [hw]
   ·simp [hn]
   ·rw [ah (by omega)];exact hz
   ·rw [ah (by omega),hb,<-hup,u1];rw [<-vM (f:=Tg.Un.up) rfl hlt,List.set_getElem_self]
   ·rw [aw,hB]
   ·rw [ah (by omega)];exact ho l hl
  |true=>
   rw [hc]at hL;have u1:Tg.Un.up s[i]=s[i]&&&223:=by unfold Tg.Un.up;rw [hc];rfl
   have u2:Tg.Un.msk s[i]=223:=by unfold Tg.Un.msk;rw [hc];rfl
   rw [u1]at hup;rw [u2]at hmk;have hb8:bAnd .u8 (s[i].toNat:Int) 223=((s[i]&&&223).toNat:Int):=A7 (a:=s[i]) (b:=223);have s3:=nh e1 lb (s[i]&&&223);rw [hup]at s3;generalize hH1:H'.set (H.n+2) ⟨iB (((s.take i).map Tg.Un.msk++(List.replicate s.length (0:UInt8)).drop i).set i 255),5,true⟩=H1 at*
   have e2:(H1.set (H.n+1) ⟨iB ((s.take (i+1)).map Tg.Un.up++s.drop (i+1)),MK Tryz.prog 5,true⟩).get (H.n+2)=some ⟨iB (((s.take i).map Tg.Un.msk++(List.replicate s.length (0:UInt8)).drop i).set i 255),5,true⟩:=by
    rw [ah (by omega),<-hH1,aw]
   have s4:lst Tryz.prog 5 (ptr (H.n+2) i) (.int .u8 223) (H1.set (H.n+1) ⟨iB ((s.take (i+1)).map Tg.Un.up++s.drop (i+1)),MK Tryz.prog 5,true⟩)=some (undef,_):=nh e2 (by rw [List.length_set];exact lm) 223;rw [List.set_set,hmk]at s4;have hn1:H1.n=H.n+3:=by rw [<-hH1];exact hn
   have hg1: ∀l,l<H.n+1->H1.get l=H'.get l:=fun l hl=>by rw [<-hH1,ah (by omega)]
   simp only [UInt8.toNat_and,show UInt8.toNat 223=223 from rfl]at hb8 s3;generalize hB1:(s.take (i+1)).map Tg.Un.up++s.drop (i+1)=B' at*;generalize hB2:(s.take (i+1)).map Tg.Un.msk++(List.replicate s.length (0:UInt8)).drop (i+1)=M' at*;generalize hB3:((s.take i).map Tg.Un.msk++(List.replicate s.length (0:UInt8)).drop i).set i 255=M2 at*;simp [g0,g1,g4,g5,g6,g14,g15,q,s1,s2,hL,hb8,s3,s4];refine ih (i+1) _ _ (by omega) ⟨?_,?_,?_,?_,?_,?_,?_,by omega,⟨?_,?_,?_,?_,fun l hl=>?_⟩⟩
   ·simp [g0]
   ·simp [g1]
   ·simp [g4]
   ·simp [g5]
   ·simp [g6]
   ·simp [g14]
   ·simp [hw]
   ·simp [hn1]
   ·rw [ah (by omega),ah (by omega),hg1 _ (by omega)];exact hz
   ·rw [ah (by omega),aw,hB1]
   ·rw [aw,hB2]
   ·rw [ah (by omega),ah (by omega),hg1 _ (by omega)];exact ho l hl
 ·have q:=eq_false (show¬(i:Int)<(s.length:Int) by omega);obtain rfl:i=s.length:=by omega
  rw [List.take_length,List.drop_length,List.append_nil]at hb;rw [List.take_length,List.drop_of_length_le (by simp),List.append_nil]at hm;have c1:=fun(c:Nat)=>jL (c:=c) hb;have c2:=fun(c:Nat)=>jL (c:=c) hm;rw [List.length_map]at c1 c2;have hw:Tg.Un.white= [9,10,12,13,32]:=rfl;simp [g0,g1,g4,g5,g6,g14,g15,q,hz,hn,c1,c2,Tg.Un.tag,hw,A0];exact⟨by omega,fun l hl=>ho l hl⟩
end
end Go.Proofs.YtbeoilidocfofaaGreatDoor
namespace Tg.Un
open Go
def numL:List UInt8->Nat->Nat
 | [],n=>n
 |c::s,n=>numL s (n*256+c.toNat)
theorem num4_l (s:List UInt8) (h:4<=s.length):numL (s.take 4) 0=num4 s:=by
 match s,h with
 |a::b::c::d::r,_=>simp [numL,num4]
 | [],h=>simp at h
 | [_],h=>simp at h
 | [_,_],h=>simp at h
 | [_,_,_],h=>simp at h
theorem Kq {m n:Nat} (hn:n<256):m*256|||n=m*256+n:=by
 have:=Nat.shiftLeft_add_eq_or_of_lt (i:=8) (b:=n) (by omega) m;rw [Nat.shiftLeft_eq]at this;exact this.symm
theorem step32 {n:Nat} (h:n<16777216) (c:UInt8):Go.Lg.bOr .u32 (IntKind.u32.wrap ((n:Int)*2^min 8 IntKind.u32.bits)) (IntKind.u32.wrap (c.toNat:Int))=((n*256+c.toNat:Nat):Int):=by
 have hc:=c.toNat_lt
 have w1:IntKind.u32.wrap ((n:Int)*2^min 8 IntKind.u32.bits)=((n*256:Nat):Int):=by
  rw [show(2:Int)^min 8 IntKind.u32.bits=256 from rfl,IntKind.wrap_u32];omega
 have w2:IntKind.u32.wrap (c.toNat:Int)=(c.toNat:Int):=by rw [IntKind.wrap_u32];omega
 rw [w1,w2];unfold Go.Lg.bOr;rw [BitVec.toNat_or,show IntKind.u32.bits=32 from rfl,Go.Lg.ofInt_nat,Go.Lg.ofInt_nat,Nat.mod_eq_of_lt (by omega),Nat.mod_eq_of_lt (by omega),Kq (by omega),IntKind.wrap_u32];omega
end Tg.Un
namespace Go.Proofs.YtbeoilidocfofaaGreatDoor
open Go.Lg Go.Tg
abbrev cb (s:List UInt8) (i:Int):LB:=⟨[str s,.int .i64 i],163,true⟩
section
variable {H:LH} {s:List UInt8} {l:Nat}
theorem vO (hk:H.get l=some (cb s 0)):LC Tryz.prog EJ 186 [ptr l 0] H=some (str s,H):=by
 refine ag rfl Tryz.func186 rfl (Nat.le_of_ble_eq_true rfl) (by decide) (by kernel_rfl) rfl ?_;simp [hk]
theorem E5 (hk:H.get l=some (cb s 0)) (h4:4<=s.length):R Tryz.prog cC (.call 202 [ptr l 0,.int .i64 4] H (.ret (str (s.take 4))) (H.set l (cb s 4))):=by
 have h1:=vO hk;have q:=eq_true (show(4:Int)<=(s.length:Int) by omega);refine cH Tryz.func202 rfl (Nat.le_of_ble_eq_true rfl) (by decide) (by kernel_rfl) ?_;have hC:=fun(x y:Int)=>fN (H:=H) (x:=x) (y:=y);simp [h1];refine ai (g:=145) (first:=#[]) (caps:=#[]) (H1:=H) rfl rfl rfl (by simp) (by simpa using hC 0 8) rfl ?_;simp [hk];refine ai (g:=145) (first:=#[]) (caps:=#[]) (H1:=H) rfl rfl rfl (by simp) (by simpa using hC 0 9) rfl ?_;simp [hk,q];refine ai (g:=145) (first:=#[]) (caps:=#[]) (H1:=H) rfl rfl rfl (by simp) (by simpa using hC 0 8) rfl ?_;simp [hk,q]
theorem A' (hk:H.get l=some (cb s 0)) (h4:s.length<4):R Tryz.prog cC (.call 202 [ptr l 0,.int .i64 4] H (.pan (.agg #[.int .i64 0,.int .i64 8])) H):=by
 have h1:=vO hk;have q:=eq_false (show¬(4:Int)<=(s.length:Int) by omega);refine cH Tryz.func202 rfl (Nat.le_of_ble_eq_true rfl) (by decide) (by kernel_rfl) ?_;have hC:=fun(x y:Int)=>fN (H:=H) (x:=x) (y:=y);have hB:=ib (H:=H) (x:=0) (y:=8) (by decide);simp [h1];refine ai (g:=145) (first:=#[]) (caps:=#[]) (H1:=H) rfl rfl rfl (by simp) (by simpa using hC 0 8) rfl ?_;simp [hk];refine ai (g:=145) (first:=#[]) (caps:=#[]) (H1:=H) rfl rfl rfl (by simp) (by simpa using hC 0 9) rfl ?_;simp [hk,q];refine au (g:=145) (first:=#[]) (caps:=#[]) (H1:=H) rfl rfl rfl (by simp) (by simpa using hB) ?_;simp
theorem E6 (hk:H.get l=some (cb s 0)) (h4:s.length<4):R Tryz.prog cC (.call 324 [ptr l 0] H (.pan (.agg #[.int .i64 0,.int .i64 8])) H):=by
 have ht:=A' hk h4;refine cH Tryz.func324 rfl (Nat.le_of_ble_eq_true rfl) (by decide) (by kernel_rfl) ?_;simp;refine au (g:=202) (first:=#[]) (caps:=#[]) (H1:=H) rfl rfl rfl (by simp) (by simpa using ht) ?_;simp
theorem Kr (hk:H.get l=some (cb s 0)) (h4:4<=s.length) (hl:l<H.n): ∃H1,R Tryz.prog cC (.call 324 [ptr l 0] H (.ret (.int .u32 (Tg.Un.num4 s))) H1)/\H.n<=H1.n/\ ∀k,k<H.n->k≠l->H1.get k=H.get k:=by
 have key: ∃r H1,R Tryz.prog cC (.call 324 [ptr l 0] H r H1)/\(r=.ret (.int .u32 (Tg.Un.num4 s))/\H.n<=H1.n/\ ∀k,k<H.n->k≠l->H1.get k=H.get k):=by
  have ht:=E5 hk h4;have hnum:=Tg.Un.num4_l s h4;have hlen:(s.take 4).length=4:=by rw [List.length_take];omega
  refine fL Tryz.func324 rfl (Nat.le_of_ble_eq_true rfl) (by decide) (by kernel_rfl) (Q:=fun r H1=>r=.ret (.int .u32 (Tg.Un.num4 s))/\H.n<=H1.n/\ ∀k,k<H.n->k≠l->H1.get k=H.get k) ?_;rw [<-hnum];generalize s.take 4=L at*;have q0:=eq_true (show L.length<=maxLen by rw [hlen];decide);simp;refine ai (g:=202) (first:=#[]) (caps:=#[]) (H1:=H.set l (cb s 4)) rfl rfl rfl (by simp) (by simpa using ht) rfl ?_;simp [q0,hlen];refine kG (fun(i:Nat) fr' H' p'=>fr' 8=sl H.n 4 4/\fr' 9=.int .i64 4/\fr' 10=.int .i64 i/\i<=4/\(∃n:Nat,fr' 3=.int .u32 n/\n<256^i/\Tg.Un.numL (L.drop i) n=Tg.Un.numL L 0)/\H'=(H.set l (cb s 4)).new ⟨iB L,MK Tryz.prog 5,true⟩/\p'=none) (fun i=>4-i) 0 ⟨by simp,by simp,by simp,Nat.zero_le _,⟨0,by simp,by decide,rfl⟩,by simp [iB,show 4<=maxLen by decide],rfl⟩ ?_;rintro i fr' H' p' ⟨g8,g9,g10,hi,⟨n,g3,hn,he⟩,rfl,rfl⟩ ih;by_cases hlt:i<4
  ·have q:=eq_true (show(i:Int)<4 by omega);have hw:IntKind.i64.wrap ((i:Int)+1)=((i+1:Nat):Int):=by rw [wrapI (by omega) (by omega)];omega
   have hil:i<L.length:=by omega
   have hb:=A_ (H:=(H.set l (cb s 4)).new ⟨iB L,MK Tryz.prog 5,true⟩) (k:=H.n) (i:=i) (r:=true) (e:=MK Tryz.prog 5) (l:=L) (by rw [show H.n=(H.set l (cb s 4)).n from rfl,ak]) hil;rw [List.drop_eq_getElem_cons hil]at he;generalize L[i]=c at*;have hp:256^i<=256^3:=Nat.pow_le_pow_right (by decide) (by omega);have hs:=Tg.Un.step32 (n:=n) (by omega) c;simp [g3,g8,g9,g10,q,hb,hs];refine ih (i+1) _ _ _ (by omega) ⟨?_,?_,?_,by omega,⟨n*256+c.toNat,?_,?_,he⟩,rfl,rfl⟩
   ·simp [g8]
   ·simp [g9]
   ·simp [hw]
   ·simp
   ·have:=c.toNat_lt;rw [Nat.pow_succ];omega
  ·have q:=eq_false (show¬(i:Int)<4 by omega);rw [List.drop_of_length_le (by omega)]at he;have he:n=Tg.Un.numL L 0:=he;subst he;simp [g3,g8,g9,g10,q];intro k hk hkl;rw [aa (by rw [cG];omega),ah hkl]
 obtain⟨r,H1,h1,rfl,h2,h3⟩:=key;exact⟨H1,h1,h2,h3⟩
abbrev fU (l:Nat):Value:=.func (.func 324) #[ptr l 0] #[]
@[simp] theorem Q7:aF Tryz.prog 283=some false:=by kernel_rfl
@[simp] theorem S8:sz Tryz.prog 283=some 1:=by kernel_rfl
theorem Oy {f v:Nat} {e:TypeId} {b:Bool} {x:Int} (hk:H.get l=some (cb s 0)) (h4:4<=s.length) (hl:l<H.n) (hf:H.get f=some ⟨[fU l],e,b⟩) (hv:H.get v=some ⟨[.int .u32 x],193,true⟩) (hvn:v<H.n) (hvl:v≠l):
  ∃H1 u,R Tryz.prog cC (.call 329 [ptr f 0,ptr v 0] H (.ret u) H1)/\H.n<=H1.n/\H1.get v=some ⟨[.int .u32 (Tg.Un.num4 s)],193,true⟩/\ ∀k,k<H.n->k≠l->k≠v->H1.get k=H.get k:=by
 obtain⟨H1,hu,hn,ho⟩:=Kr hk h4 hl
 have key: ∃r H2,R Tryz.prog cC (.call 329 [ptr f 0,ptr v 0] H r H2)/\((∃u,r=.ret u)/\H2=H1.set v ⟨[.int .u32 (Tg.Un.num4 s)],193,true⟩):=by
  refine fL Tryz.func329 rfl (Nat.le_of_ble_eq_true rfl) (by decide) (by kernel_rfl) (Q:=fun r H2=>(∃u,r=.ret u)/\H2=H1.set v ⟨[.int .u32 (Tg.Un.num4 s)],193,true⟩) ?_;have hv1:=ho v hvn hvl;rw [hv]at hv1;simp [hf];refine ai (g:=324) (first:=#[ptr l 0]) (caps:=#[]) (H1:=H1) rfl rfl rfl (by simp) (by simpa using hu) rfl ?_;simp [hv1]
 obtain⟨r,H2,h1,⟨u,rfl⟩,rfl⟩:=key;exact⟨_,u,h1,by rw [cG];exact hn,aw,fun k hk hkl hkv=>by rw [ah hkv,ho k hk hkl]⟩
theorem Ks {f v:Nat} {e:TypeId} {b:Bool} (hk:H.get l=some (cb s 0)) (h4:s.length<4) (hf:H.get f=some ⟨[fU l],e,b⟩):
  R Tryz.prog cC (.call 329 [ptr f 0,ptr v 0] H (.pan (.agg #[.int .i64 0,.int .i64 8])) H):=by
 have hu:=E6 hk h4;refine cH Tryz.func329 rfl (Nat.le_of_ble_eq_true rfl) (by decide) (by kernel_rfl) ?_;simp [hf];refine au (g:=324) (first:=#[ptr l 0]) (caps:=#[]) (H1:=H) rfl rfl rfl (by simp) (by simpa using hu) ?_;simp
theorem Ba (hk:H.get l=some (cb s 0)) (h4:4<=s.length) (hl:l<H.n): ∃H1,R Tryz.prog cC (.call 323 [fU l] H (.ret (.tuple #[.int .u32 (Tg.Un.num4 s),dR])) H1)/\H.n<=H1.n/\ ∀k,k<H.n->k≠l->H1.get k=H.get k:=by
 have key: ∃r H1,R Tryz.prog cC (.call 323 [fU l] H r H1)/\(r=.ret (.tuple #[.int .u32 (Tg.Un.num4 s),dR])/\H.n<=H1.n/\ ∀k,k<H.n->k≠l->H1.get k=H.get k):=by
  refine fL Tryz.func323 rfl (Nat.le_of_ble_eq_true rfl) (by decide) (by kernel_rfl) (Q:=fun r H1=>r=.ret (.tuple #[.int .u32 (Tg.Un.num4 s),dR])/\H.n<=H1.n/\ ∀k,k<H.n->k≠l->H1.get k=H.get k) ?_;have g0: ∀a b c:LB,(((H.new a).new b).new c).get H.n=some a:=fun a b c=>by rw [aa (by simp only [aL];omega),aa (by simp only [aL];omega),ak]
  have g1: ∀a b c:LB,(((H.new a).new b).new c).get (H.n+1+1)=some c:=fun a b c=>by rw [show H.n+1+1=((H.new a).new b).n from rfl,ak]
  have go: ∀(a b c:LB) k,k<H.n->(((H.new a).new b).new c).get k=H.get k:=fun a b c k hk=>by rw [aa (by simp only [aL];omega),aa (by simp only [aL];omega),aa (by omega)]
  have hq:bL Tryz.prog .eql 283 (fU l) .nilFunc=some (.bool false):=iN Tryz.underlying283;obtain⟨H1,u,r1,n1,e1,o1⟩:=Oy (H:=((H.new ⟨[fU l],283,true⟩).new ⟨[.int .i64 0,.int .i64 0],127,true⟩).new ⟨[.int .u32 0],193,true⟩) (l:=l) (f:=H.n) (v:=H.n+1+1) (x:=0) (by rw [go _ _ _ _ hl];exact hk) h4 (by simp only [aL];omega) (g0 _ _ _) (g1 _ _ _) (by simp only [aL];omega) (by omega);have hcat:R Tryz.prog cC (.call 142 [.func (.func 329) #[] #[ptr H.n 0,ptr (H.n+1+1) 0]] _ (.ret (.tuple #[dR,.bool false])) H1):=R.cat (E:=cC) rfl (by simpa using r1);have n2:H.n+3<=H1.n:=by simp only [aL]at n1;omega
  have c2:H1.get (H.n+1)=some ⟨[.int .i64 0,.int .i64 0],127,true⟩:=by
   rw [o1 _ (by simp only [aL];omega) (by omega) (by omega),aa (by simp only [aL];omega),show H.n+1=(H.new ⟨[fU l],283,true⟩).n from rfl,ak]
  have d1:(H.n+1=H1.n)=False:=eq_false (by omega);have d2:(H.n+1+1=H1.n)=False:=eq_false (by omega);have oo: ∀k,k<H.n->k≠l->H1.get k=H.get k:=fun k hk hkl=>by rw [o1 k (by simp only [aL];omega) hkl (by omega),go _ _ _ k hk]
  simp [g0,hq];refine ai (g:=142) (first:=#[]) (caps:=#[]) (H1:=H1) rfl rfl rfl (by simp) (by simpa using hcat) rfl ?_;simp [dR,e1,c2,d1,d2];exact⟨by omega,fun k hk hkl=>by rw [ah (by omega),aa (by omega)];exact oo k hk hkl⟩
 obtain⟨r,H1,h1,rfl,h2,h3⟩:=key;exact⟨H1,h1,h2,h3⟩
theorem xK (hk:H.get l=some (cb s 0)) (h4:s.length<4) (hl:l<H.n): ∃H1,R Tryz.prog cC (.call 323 [fU l] H (.ret (.tuple #[.int .u32 0,.agg #[.int .i64 0,.int .i64 8]])) H1)/\H.n<=H1.n/\ ∀k,k<H.n->H1.get k=H.get k:=by
 have key: ∃r H1,R Tryz.prog cC (.call 323 [fU l] H r H1)/\(r=.ret (.tuple #[.int .u32 0,.agg #[.int .i64 0,.int .i64 8]])/\H.n<=H1.n/\ ∀k,k<H.n->H1.get k=H.get k):=by
  refine fL Tryz.func323 rfl (Nat.le_of_ble_eq_true rfl) (by decide) (by kernel_rfl) (Q:=fun r H1=>r=.ret (.tuple #[.int .u32 0,.agg #[.int .i64 0,.int .i64 8]])/\H.n<=H1.n/\ ∀k,k<H.n->H1.get k=H.get k) ?_;have g0: ∀a b c:LB,(((H.new a).new b).new c).get H.n=some a:=fun a b c=>by rw [aa (by simp only [aL];omega),aa (by simp only [aL];omega),ak]
  have go: ∀(a b c:LB) k,k<H.n->(((H.new a).new b).new c).get k=H.get k:=fun a b c k hk=>by rw [aa (by simp only [aL];omega),aa (by simp only [aL];omega),aa (by omega)]
  have hq:bL Tryz.prog .eql 283 (fU l) .nilFunc=some (.bool false):=iN Tryz.underlying283;have r1:=Ks (H:=((H.new ⟨[fU l],283,true⟩).new ⟨[.int .i64 0,.int .i64 0],127,true⟩).new ⟨[.int .u32 0],193,true⟩) (l:=l) (f:=H.n) (v:=H.n+1+1) (by rw [go _ _ _ _ hl];exact hk) h4 (g0 _ _ _);have hcat:R Tryz.prog cC (.call 142 [.func (.func 329) #[] #[ptr H.n 0,ptr (H.n+1+1) 0]] _ (.ret (.tuple #[.agg #[.int .i64 0,.int .i64 8],.bool true])) _):=R.catp (E:=cC) rfl (by simpa using r1);have c2: ∀(a b c d:LB),((((H.new a).new b).new c).new d).get (H.n+1)=some b:=fun a b c d=>by rw [aa (by simp only [aL];omega),aa (by simp only [aL];omega),show H.n+1=(H.new a).n from rfl,ak]
  have d3:(H.n+1=H.n+1+1+1)=False:=eq_false (by omega);have d4:(H.n+1+1+1=H.n+1)=False:=eq_false (by omega);simp [g0,hq];refine ai (g:=142) (first:=#[]) (caps:=#[]) rfl rfl rfl (by simp) (by simpa using hcat) rfl ?_;simp [c2,d3,d4];exact⟨by omega,fun k hk=>by rw [ah (by omega),aa (by simp only [aL];omega),go _ _ _ k hk]⟩
 obtain⟨r,H1,h1,rfl,h2,h3⟩:=key;exact⟨H1,h1,h2,h3⟩
theorem vP:LC Tryz.prog EJ 100 [str s] H=some (ptr H.n 0,H.new (cb s 0)):=by
 obtain⟨r,h,e⟩: ∃r,LC Tryz.prog EJ 100 [str s] H=some (Lg.trunc H r)/\r=(ptr H.n 0,H.new (cb s 0)):=by
  refine aD (P:=Tryz.prog) (E:=EJ) (f:=100) rfl Tryz.func100 rfl (Nat.le_of_ble_eq_true rfl) (by decide) (by kernel_rfl) ?_
  have hf:bG Tryz.prog 163 [str [],.int .i64 0] [(0,str s)]=some [str s,.int .i64 0]:=by
   rw [aB (o:=0) (n:=1) (g:=false) (by simp) rfl (by simp) (by simp)];simp
  simp [hf]
 rw [h,e,dH (by simp [ao,az,aA])]
theorem E7 (s:List UInt8):Tg.Un.num4 s<4294967296:=by
 unfold Tg.Un.num4;split
 ·rename_i a b c d r;have h1:=a.toNat_lt;have h2:=b.toNat_lt;have h3:=c.toNat_lt;have h4:=d.toNat_lt;omega
 ·decide
theorem vQ (h4:4<=s.length):R Tryz.prog cC (.call 311 [str s] H (.ret (.tuple #[.int .i64 (Tg.Un.num4 s),.bool true])) H):=by
 have hN:=vP (H:=H) (s:=s);obtain⟨H1,r1,n1,o1⟩:=Ba (H:=H.new (cb s 0)) (l:=H.n) (by rw [ak]) h4 (Nat.lt_succ_self _);have hlt:=E7 s;have hw:IntKind.i64.wrap (Tg.Un.num4 s:Int)=(Tg.Un.num4 s:Int):=wrapI (by omega) (by omega);refine bz Tryz.func311 rfl (Nat.le_of_ble_eq_true rfl) (by decide) (by kernel_rfl) rfl ?_;simp [hN];refine sq (g:=324) rfl rfl (by decide) rfl ?_;simp;refine ai (g:=323) (first:=#[]) (caps:=#[]) (H1:=H1) rfl rfl rfl (by simp) (by simpa using r1) rfl ?_;simp [dR,hw];simp only [aL]at n1;exact⟨by show H.n<=H1.n+1;omega,fun k hk=>by rw [aa (by omega),o1 k (by simp only [aL];omega) (by omega),aa (by omega)]⟩
theorem Bb (h4:s.length<4):R Tryz.prog cC (.call 311 [str s] H (.ret (.tuple #[.int .i64 0,.bool false])) H):=by
 have hN:=vP (H:=H) (s:=s);obtain⟨H1,r1,n1,o1⟩:=xK (H:=H.new (cb s 0)) (l:=H.n) (by rw [ak]) h4 (Nat.lt_succ_self _);refine bz Tryz.func311 rfl (Nat.le_of_ble_eq_true rfl) (by decide) (by kernel_rfl) rfl ?_;simp [hN];refine sq (g:=324) rfl rfl (by decide) rfl ?_;simp;refine ai (g:=323) (first:=#[]) (caps:=#[]) (H1:=H1) rfl rfl rfl (by simp) (by simpa using r1) rfl ?_;simp;simp only [aL]at n1;exact⟨by show H.n<=H1.n+1;omega,fun k hk=>by rw [aa (by omega),o1 k (by simp only [aL];omega),aa (by omega)]⟩
end
end Go.Proofs.YtbeoilidocfofaaGreatDoor
namespace Tg.Un
open Go
theorem xL: ∀k:Fin 256,(width (UInt8.ofNat k.1):Int)=if 8<8-(Go.Lib.bitLen k.1:Int)+1 then 8 else 8-(Go.Lib.bitLen k.1:Int)+1:=by decide+kernel
theorem width_eq (c:UInt8):(width c:Int)=if 8<8-(Go.Lib.bitLen c.toNat:Int)+1 then 8 else 8-(Go.Lib.bitLen c.toNat:Int)+1:=by
 have:=xL ⟨c.toNat,c.toNat_lt⟩;simpa using this
theorem pre_eq: ∀s p:List UInt8,Go.Lib.hasPrefix s p=pre s p
 |_,[]=>by unfold pre;simp [Go.Lib.hasPrefix]
 | [],_::_=>by unfold pre;simp [Go.Lib.hasPrefix]
 |c::s,d::p=>by
  have:=pre_eq s p;unfold Go.Lib.hasPrefix at this⊢;unfold pre;rw [<-this];by_cases h:c=d
  ·subst h;simp
  ·have h2: ¬d=c:=fun e=>h e.symm;have h3:(c==d)=false:=by simp [h]
   have h4:(d==c)=false:=by simp [h2]
   simp [List.isPrefixOf,h3,h4]
theorem pre_take: ∀s p:List UInt8,pre s p=decide (s.take p.length=p)
 |_,[]=>by unfold pre;simp
 | [],_::_=>by unfold pre;simp
 |c::s,d::p=>by
  unfold pre;rw [pre_take s p];by_cases h:c=d
  ·subst h;simp
  ·have h3:(c==d)=false:=by simp [h]
   simp [h]
end Tg.Un
namespace Go.Proofs.YtbeoilidocfofaaGreatDoor
open Go.Lg Go.Tg
section
variable {H:LH} {s t:List UInt8} {c:UInt8}
theorem qe:LC Tryz.prog EJ 45 [str s] H=some (str (s.take 1445),H):=by
 refine ag rfl Tryz.func45 rfl (Nat.le_of_ble_eq_true rfl) (by decide) (by kernel_rfl) rfl ?_;by_cases h:s.length<=1445
 ·have q:=eq_false (show¬(1445:Int)<(s.length:Int) by omega);simp [q,List.take_of_length_le h]
  try exact List.take_of_length_le h
 ·have q:=eq_true (show(1445:Int)<(s.length:Int) by omega);have q2:=eq_true (show(1445:Int)<=(s.length:Int) by omega);simp [q,q2]
theorem Bc {b:Bool} :LC Tryz.prog EJ 274 [str s,.bool b] H=some (str (if b=true then s else []),H):=by
 refine ag rfl Tryz.func274 rfl (Nat.le_of_ble_eq_true rfl) (by decide) (by kernel_rfl) rfl ?_;cases b<;>simp
theorem Bd:LC Tryz.prog EJ 297 [.int .u8 c.toNat] H=some (.int .i64 (Tg.Un.width c),H):=by
 refine ag rfl Tryz.func297 rfl (Nat.le_of_ble_eq_true rfl) (by decide) (by kernel_rfl) rfl ?_;have h1:=fun H:LH=>Ou (H:=H) (c:=c);rw [Tg.Un.width_eq c]
 have h2:(Go.Lib.bitLen c.toNat:Int)<=8:=by
  have:=Tg.Un.width_eq c
  have:0<Tg.Un.width c:=by
   unfold Tg.Un.width;repeat (split;omega)
   omega
  split at* <;>omega
 have h3:(0:Int)<=(Go.Lib.bitLen c.toNat:Int):=Int.natCast_nonneg _;generalize (Go.Lib.bitLen c.toNat:Int)=x at*;have hw:IntKind.i64.wrap (8-x+1)=8-x+1:=wrapI (by omega) (by omega);simp [h1,hw]
theorem Kt (hs:s.length<=1048576):LC Tryz.prog EJ 298 [str s,str [119,101,98,109]] H=some (.bool (Tg.Un.padded s),H):=by
 refine ag rfl Tryz.func298 rfl (Nat.le_of_ble_eq_true rfl) (by decide) (by kernel_rfl) rfl ?_;obtain⟨x,hx⟩: ∃x,x=Tg.Un.padded s:=⟨_,rfl⟩
 rw [<-hx];simp;refine aK (fun(t:List UInt8) fr' H'=>fr' 0=str t/\fr' 1=str [119,101,98,109]/\x=Tg.Un.padded t/\H'=H) (fun t=>t.length) s ⟨by simp,by simp,hx,rfl⟩ ?_;rintro t fr' H' ⟨h0,h1,hc,rfl⟩ ih;cases t with
 |nil=>
  have hp:Go.Lib.hasPrefix ([]:List UInt8) [119,101,98,109]=false:=rfl;have hc:x=false:=hc;simp [h0,h1,hp,hc]
 |cons a t=>
  have hat:at_ (a::t) 0=a:=rfl;have q1:=eq_true (show(1:Int)<=(t.length:Int)+1 by omega);have hp:=Tg.Un.pre_eq (a::t) [119,101,98,109];unfold Tg.Un.padded at hc;by_cases ha:a=0
  ·subst ha;rw [if_pos rfl]at hc;have hp2:Go.Lib.hasPrefix ((0:UInt8)::t) [119,101,98,109]=false:=by rw [hp];rfl
   simp [h0,h1,hat,hp2,q1];refine ih t _ _ (by simp) ⟨?_,?_,hc,rfl⟩
   all_goals simp [h1]
  ·rw [if_neg ha]at hc;have q:=HQ ha;rw [show((0:UInt8).toNat:Int)=0 from rfl]at q;have q2:(a.toNat=0)=False:=eq_false (fun e=>ha (UInt8.toNat_inj.mp (by rw [e];rfl)));rw [show Tg.Un.webmS= [119,101,98,109] from rfl,<-hp]at hc;simp [h0,h1,hat,q,q2,hc]
theorem ux:LC Tryz.prog EJ 296 [str s] H=some (.bool (Tg.Un.pre s Tg.Un.mark),H):=by
 refine ag rfl Tryz.func296 rfl (Nat.le_of_ble_eq_true rfl) (by decide) (by kernel_rfl) rfl ?_;have hp:=Tg.Un.pre_eq s [26,69,223,163];rw [show Tg.Un.mark= [26,69,223,163] from rfl,<-hp];simp
end
section
variable {H:LH} {s:List UInt8} {l:Nat}
theorem HW:sub s 4 8=(s.drop 4).take 4:=by unfold sub;exact List.drop_take
theorem Q8 {i j:Nat} (h:i<=j):sub s (i:Int) (j:Int)=(s.drop i).take (j-i):=by unfold sub;exact List.drop_take
theorem E8 {v:Value} {N:Nat} {l:List (List UInt8)} {x:List UInt8} (h:bA N H 9 1 v l.length (l.map str)) (hN:N<=H.n) (hl:l.length<=1000000):
  ∃v' H2,eJ Tryz.prog 116 v (some (1,[str x])) (H.new ⟨[str x],9,true⟩)=some (v',H2)/\bA N H2 9 1 v' (l++ [x]).length ((l++ [x]).map str)/\N<=H2.n/\ ∀k,k<N->H2.get k=H.get k:=by
 have h2:bA N (H.new ⟨[str x],9,true⟩) 9 1 v l.length (l.map str):=h.keep (Nat.le_succ _) (fun k _ _ hk=>aa (by omega));obtain⟨v',H2,ha,hr,hk,_⟩:=h2.app (t:=116) (new:= [x].map str) (m:=1) Tryz.underlying116 (by kernel_rfl) (by simp) (by simp) (by unfold aH;omega) (by rw [aL];omega) (.inl (Nat.le_refl 1));refine⟨v',H2,ha,by rw [List.length_append,List.map_append];exact hr,Nat.le_trans (by rw [aL];omega) hk.le,fun k hkn=>?_⟩;rw [hk.get k (by rw [aL];omega) (h.off_lt hkn),aa (by omega)]
theorem Ku {N:Nat} {v:Value} {xs:List (List UInt8)} (h:bA N H 9 1 v xs.length (xs.map str)):dW H v xs:=by
 rcases h.2 with⟨e,h0⟩|⟨k,c,rest,rfl,_,h1,h2,_⟩
 ·exact .inl ⟨e,List.eq_nil_of_length_eq_zero h0⟩
 ·exact dW.of h2 h1
theorem Oz {x:List UInt8} :aG Tryz.prog 116 1 [(0,str x)] H=some (sl H.n 1 1,H.new ⟨[str x],9,true⟩):=fK (z:=str []) Tryz.underlying116 (by kernel_rfl) (by kernel_rfl) rfl rfl rfl (by decide) rfl
def piece (s:List UInt8) (i:Nat):List UInt8:=(s.drop (16+4*i)).take 4
theorem Be:R Tryz.prog cC (.call 310 [str s] H (.ret (.bool (Tg.Un.mp4h s))) H):=by
 refine bz Tryz.func310 rfl (Nat.le_of_ble_eq_true rfl) (by decide) (by kernel_rfl) rfl ?_;unfold Tg.Un.mp4h;by_cases h4:s.length<4
 ·have hs:=Bb (H:=H) h4;have e:decide (12<=s.length)=false:=decide_eq_false (by omega);rw [e];simp;refine ai (g:=311) (first:=#[]) (caps:=#[]) (H1:=H) rfl rfl rfl (by simp) (by simpa using hs) rfl ?_;simp
 ·have hs:=vQ (H:=H) (s:=s) (by omega);simp;refine ai (g:=311) (first:=#[]) (caps:=#[]) (H1:=H) rfl rfl rfl (by simp) (by simpa using hs) rfl ?_;have tm:(Tg.Un.num4 s:Int).tmod 4=((Tg.Un.num4 s%4:Nat):Int):=by rw [Int.tmod_eq_emod_of_nonneg (by omega)];rfl
  generalize Tg.Un.num4 s=n at*;by_cases a1:12<=s.length
  ·have q1:=eq_true (show(12:Int)<=(s.length:Int) by omega);by_cases a2:n<=s.length
   ·have q2:=eq_true (show(n:Int)<=(s.length:Int) by omega);by_cases a3:n%4=0
    ·rw [a3]at tm;have q8:=eq_true (show(8:Int)<=(s.length:Int) by omega);by_cases a4:(s.drop 4).take 4=Tg.Un.ftyp
     ·simp [q1,q2,q8,tm,a1,a2,a3,a4];rw [HW];exact a4
     ·simp [q1,q2,q8,tm,a1,a2,a3,a4];rw [HW];exact(decide_eq_false a4).trans (beq_eq_false_iff_ne.2 a4).symm
    ·have q3:=eq_false (show¬((n%4:Nat):Int)=0 by omega);have q4:=eq_false (show¬(n:Int)%4=0 by omega);simp [q1,q2,tm,q3,q4,a1,a2,a3]
   ·have q2:=eq_false (show¬(n:Int)<=(s.length:Int) by omega);simp [q1,q2,a1,a2]
  ·have q1:=eq_false (show¬(12:Int)<=(s.length:Int) by omega);simp [q1,a1]
theorem Bf (hs:s.length<=1000000): ∃v H1,R Tryz.prog cC (.call 294 [str s] H (.ret v) H1)/\dW H1 v (if Tg.Un.mp4h s=true then Tg.Un.brands s else [])/\H.n<=H1.n/\ ∀k,k<H.n->H1.get k=H.get k:=by
 have key: ∃r H1,R Tryz.prog cC (.call 294 [str s] H r H1)/\ ∃v,r=.ret v/\dW H1 v (if Tg.Un.mp4h s=true then Tg.Un.brands s else [])/\H.n<=H1.n/\ ∀k,k<H.n->H1.get k=H.get k:=by
  refine fL Tryz.func294 rfl (Nat.le_of_ble_eq_true rfl) (by decide) (by kernel_rfl) (Q:=fun r H1=> ∃v,r=.ret v/\dW H1 v (if Tg.Un.mp4h s=true then Tg.Un.brands s else [])/\H.n<=H1.n/\ ∀k,k<H.n->H1.get k=H.get k) ?_;have hb:=Be (H:=H) (s:=s);cases hm:Tg.Un.mp4h s with
  |false=>
   rw [hm]at hb;simp;refine ai (g:=310) (first:=#[]) (caps:=#[]) (H1:=H) rfl rfl rfl (by simp) (by simpa using hb) rfl ?_;simp;exact .inl ⟨rfl,rfl⟩
  |true=>
   rw [hm]at hb
   obtain⟨a1,a2,a3,_⟩:12<=s.length/\Tg.Un.num4 s<=s.length/\Tg.Un.num4 s%4=0/\(s.drop 4).take 4=Tg.Un.ftyp:=by
    unfold Tg.Un.mp4h at hm;simpa using hm
   have hz:=vQ (H:=H) (s:=s) (by omega);unfold Tg.Un.brands;generalize Tg.Un.num4 s=n at*;have q1:=eq_true (show(12:Int)<=(s.length:Int) by omega);have e8:sub s 8 12=(s.drop 8).take 4:=List.drop_take;simp;refine ai (g:=310) (first:=#[]) (caps:=#[]) (H1:=H) rfl rfl rfl (by simp) (by simpa using hb) rfl ?_;simp;refine ai (g:=311) (first:=#[]) (caps:=#[]) (H1:=H) rfl rfl rfl (by simp) (by simpa using hz) rfl ?_;simp [q1,Oz,e8];refine kG (fun(i:Nat) fr' H' p'=>fr' 0=str s/\fr' 3=.int .i64 n/\fr' 6=.int .i64 ((16+4*i:Nat):Int)/\i<=(n-16)/4/\(∃v,fr' 5=v/\bA H.n H' 9 1 v ((s.drop 8).take 4::(List.range i).map (piece s)).length (((s.drop 8).take 4::(List.range i).map (piece s)).map str))/\H.n<=H'.n/\(∀k,k<H.n->H'.get k=H.get k)/\p'=none) (fun i=>(n-16)/4-i) 0 ⟨by simp,by simp,by simp,Nat.zero_le _,⟨sl H.n 1 1,by simp,?_⟩,by simp,fun k hk=>aa (by omega),rfl⟩ ?_
   ·exact⟨by simp,.inr ⟨H.n,1,[],rfl,Nat.le_refl _,by simp,by simp,Nat.le_refl _,by simp⟩⟩
   rintro i fr' H' p' ⟨g0,g3,g6,hi,⟨v,g5,hr⟩,hn,ho,rfl⟩ ih;by_cases hlt:i<(n-16)/4
   ·have q:=eq_true (show((16+4*i:Nat):Int)<(n:Int) by omega);have w1:IntKind.i64.wrap (((16+4*i:Nat):Int)+4)=((16+4*(i+1):Nat):Int):=by rw [wrapI (by omega) (by omega)];omega
    have q2:=eq_true (show((16+4*i:Nat):Int)<=((16+4*(i+1):Nat):Int) by omega);have q3:=eq_true (show((16+4*(i+1):Nat):Int)<=(s.length:Int) by omega)
    have hp:sub s ((16+4*i:Nat):Int) ((16+4*(i+1):Nat):Int)=piece s i:=by
     rw [Q8 (by omega),show 16+4*(i+1)-(16+4*i)=4 by omega];rfl
    have hn0:=eq_true (show(0:Int)<=((16+4*i:Nat):Int) by omega);obtain⟨v2,H2,b1,b2,b3,b4⟩:=E8 (x:=piece s i) hr hn (by simp;omega)
    have hnew:((s.drop 8).take 4::(List.range i).map (piece s))++ [piece s i]=(s.drop 8).take 4::(List.range (i+1)).map (piece s):=by
     rw [List.range_succ,List.map_append];rfl
    rw [hnew]at b2;have hcv:=b2.cell;generalize ((16+4*i:Nat):Int)=A at*;generalize hB:((16+4*(i+1):Nat):Int)=B at*;simp [g0,g3,g6,q,w1,q2,q3,hn0,g5,hp,Oz,b1,hcv];refine ih (i+1) _ _ _ (by omega) ⟨?_,?_,?_,by omega,⟨v2,?_,b2⟩,b3,fun k hk=>by rw [b4 k hk,ho k hk],rfl⟩
    ·simp [g0]
    ·simp [g3]
    ·simp [w1,hB]
    ·simp
   ·have q:=eq_false (show¬((16+4*i:Nat):Int)<(n:Int) by omega);obtain rfl:i=(n-16)/4:=by omega
    have hsr:=Ku hr;generalize ((16+4*((n-16)/4):Nat):Int)=A at*;simp [g0,g3,g6,q,g5];exact⟨hsr,hn,ho⟩
 obtain⟨r,H1,h1,v,rfl,h2,h3⟩:=key;exact⟨v,H1,h1,h2,h3⟩
theorem Kv:LC Tryz.prog EJ 295 [str s] H=some (.bool (s.take 3== [109,112,52]),H):=by
 refine ag rfl Tryz.func295 rfl (Nat.le_of_ble_eq_true rfl) (by decide) (by kernel_rfl) rfl ?_
 have hp:Lib.hasPrefix s [109,112,52]=(s.take 3== [109,112,52]):=by
  rw [Tg.Un.pre_eq,Tg.Un.pre_take];by_cases h:s.take 3= [109,112,52]
  ·exact(decide_eq_true h).trans (beq_iff_eq.2 h).symm
  ·exact(decide_eq_false h).trans (beq_eq_false_iff_ne.2 h).symm
 rw [<-hp];simp
theorem OA (hs:s.length<=1000000):R Tryz.prog cC (.call 275 [str s] H (.ret (.bool (Tg.Un.mp4 s))) H):=by
 obtain⟨v,H1,r1,sr,n1,o1⟩:=Bf (H:=H) hs;refine bz Tryz.func275 rfl (Nat.le_of_ble_eq_true rfl) (by decide) (by kernel_rfl) rfl ?_
 have hlen:(if Tg.Un.mp4h s=true then Tg.Un.brands s else []).length<=1000000:=by
  cases hm:Tg.Un.mp4h s with
  |false=>simp
  |true=>
   rw [if_pos rfl]
   have:Tg.Un.num4 s<=s.length:=by
    unfold Tg.Un.mp4h at hm;simp at hm;exact hm.2.1
   simp [Tg.Un.brands];omega
 have h2:=jK (g:=295) (caps:= []) (q:=fun b=>b.take 3== [109,112,52]) sr hlen (fun x _=>Kv)
 have he:(if Tg.Un.mp4h s=true then Tg.Un.brands s else []).any (fun b=>b.take 3== [109,112,52])=Tg.Un.mp4 s:=by
  unfold Tg.Un.mp4;cases Tg.Un.mp4h s<;>simp
 rw [he]at h2;have hc:=fun H:LH=>sr.len (H':=H);simp;refine ai (g:=294) (first:=#[]) (caps:=#[]) (H1:=H1) rfl rfl rfl (by simp) (by simpa using r1) rfl ?_;simp [h2];exact⟨n1,fun k hk=>o1 k hk⟩
end
section
variable {H:LH} {b:UInt8} {s p t:List UInt8}
theorem E9 {k:Int} (h0:0<=k):LC Tryz.prog EJ 6 [str s,.int .i64 k] H=some (str (s.take k.toNat),H):=by
 refine ag rfl Tryz.func6 rfl (Nat.le_of_ble_eq_true rfl) (by decide) (by kernel_rfl) (by simp) ?_;by_cases hc:k<s.length
 ·have f:=eq_true hc;have f2:=eq_true (show k<=s.length by omega);have f3:=eq_true h0;simp [f,f2,f3]
 ·have f:=eq_false hc;have e:s.take k.toNat=s:=List.take_of_length_le (by omega);simp [f,e]
end
section
variable {H:LH} {s:List UInt8} {p:Tg.Un.Pat} {v:Value} {l:List Tg.Un.Pat} {a c:UInt8}
end
section
variable {H:LH} {s t:List UInt8} {p:Tg.Un.Pat} {v:Value} {l:List Tg.Un.Pat} {a c:UInt8}
end
theorem Q9 {H:LH} {a0 b0 c0 d0 a1 b1 c1 d1 a2 b2 c2 d2 a3 b3 c3 d3 a4 b4 c4 d4 a5 b5 c5 d5 a6 b6 c6 d6 a7 b7 c7 d7:List UInt8} :aG Tryz.prog 251 8 [(0,.agg #[str a0,str b0,str c0,str d0]),(1,.agg #[str a1,str b1,str c1,str d1]),(2,.agg #[str a2,str b2,str c2,str d2]),(3,.agg #[str a3,str b3,str c3,str d3]),(4,.agg #[str a4,str b4,str c4,str d4]),(5,.agg #[str a5,str b5,str c5,str d5]),(6,.agg #[str a6,str b6,str c6,str d6]),(7,.agg #[str a7,str b7,str c7,str d7])] H=some (sl H.n 8 8,H.new ⟨[str a0,str b0,str c0,str d0,str a1,str b1,str c1,str d1,str a2,str b2,str c2,str d2,str a3,str b3,str c3,str d3,str a4,str b4,str c4,str d4,str a5,str b5,str c5,str d5,str a6,str b6,str c6,str d6,str a7,str b7,str c7,str d7],158,true⟩):=by
 unfold aG;simp [Instr.fill,Value.cells,Array.range];rfl
section
variable {H:LH} {s t:List UInt8} {c:UInt8}
theorem E_ {n:Nat} (hs:s.length<=1048576) (hn:n<=1048576+1048576):LC Tryz.prog EJ 192 [str s,.int .i64 n] H=some (.bool (Tg.Un.ends (s.drop n)),H):=by
 refine ag rfl Tryz.func192 rfl (Nat.le_of_ble_eq_true rfl) (by decide) (by kernel_rfl) rfl ?_;have q0:=eq_true (show(0:Int)<=(n:Int) by omega);by_cases hlt:n<s.length
 ·have q:=eq_true (show(n:Int)<(s.length:Int) by omega);have hat:at_ s (n:Int)=s[n]:=dw hlt;rw [List.drop_eq_getElem_cons hlt];generalize s[n]=a at*;unfold Tg.Un.ends;by_cases h1:a.toNat=32
  ·have e1:=eq_true (show(a.toNat:Int)=32 by omega);simp [q,q0,hat,e1,h1]
  ·have e1:=eq_false (show¬(a.toNat:Int)=32 by omega);by_cases h2:a.toNat=62
   ·have e2:=eq_true (show(a.toNat:Int)=62 by omega);simp [q,q0,hat,e1,h1,e2,h2]
   ·have e2:=eq_false (show¬(a.toNat:Int)=62 by omega);simp [q,q0,hat,e1,h1,e2,h2]
 ·have q:=eq_false (show¬(n:Int)<(s.length:Int) by omega);rw [List.drop_of_length_le (by omega)];unfold Tg.Un.ends;simp [q,q0]
theorem xM (hs:s.length<=1000000) (ht:t.length<=100000):LC Tryz.prog EJ 140 [str s,str t] H=some (.bool (Tg.Un.tagged s t),H):=by
 refine ag rfl Tryz.func140 rfl (Nat.le_of_ble_eq_true rfl) (by decide) (by kernel_rfl) rfl ?_;have h1:=fun H:LH=>uw (H:=H) (s:=60::t) (t:= [116,101,120,116,47,104,116,109,108]) (by simp;omega);unfold Tg.Un.tagged;rw [show Tg.Un.htmlT= [116,101,120,116,47,104,116,109,108] from rfl];have e1:(Tg.Un.tag (60::t) [116,101,120,116,47,104,116,109,108]).b.length=t.length+1:=by simp [Tg.Un.tag]
 have e2:(Tg.Un.tag (60::t) [116,101,120,116,47,104,116,109,108]).s=Tg.Un.white:=rfl;generalize Tg.Un.tag (60::t) [116,101,120,116,47,104,116,109,108]=p at*;have h2:=fun H:LH=>jJ (H:=H) (s:=s) (p:=p) (by omega);have h3:=fun H:LH=>xH (H:=H) (s:=s) (p:=p) (by omega);have hb:=Tg.Un.begins_le Tg.Un.white s;rw [e2]at h3;have h4:=fun H:LH=>E_ (H:=H) (s:=s) (n:=Tg.Un.begins Tg.Un.white s+(t.length+1)) (by omega) (by omega);generalize Tg.Un.begins Tg.Un.white s=n at*;have h4':=h4;simp only [Int.natCast_add,Int.natCast_one]at h4';have q7:=eq_true (show t.length+1<=9223372036854775807 by omega);have q8:=eq_true (show 1+t.length<=9223372036854775807 by omega);have hw:IntKind.i64.wrap ((n:Int)+(p.b.length:Int))=((n+(t.length+1):Nat):Int):=by rw [wrapI (by omega) (by omega)];omega
 cases hh:Tg.Un.hits p s with
 |false=>rw [hh]at h2;simp [h1,h2,h3,q7,q8]
 |true=>rw [hh]at h2;simp [h1,h2,h3,hw,h4,h4',q7,q8]
theorem Kw (hm:dU H):LC Tryz.prog EJ 138 [] H=some (sl H.n 16 16,H.new ⟨Tg.Un.tagsL.map str,9,true⟩):=by
 obtain⟨r,h,e⟩: ∃r,LC Tryz.prog EJ 138 [] H=some (Lg.trunc H r)/\r=(sl H.n 16 16,H.new ⟨Tg.Un.tagsL.map str,9,true⟩):=by
  refine aD (P:=Tryz.prog) (E:=EJ) (f:=138) rfl Tryz.func138 rfl (Nat.le_of_ble_eq_true rfl) (by decide) (by kernel_rfl) ?_;have hc:Lib.countB ⟨Tg.Un.tagsS.toArray⟩ ⟨([44]:List UInt8).toArray⟩=15:=by decide+kernel
  have h1:=EV (H:=H) (s:=Tg.Un.tagsS) (p:= [44]) (by decide) (by decide) hm (by rw [hc];decide) (by rw [hc];decide+kernel)
  have hl:(Lib.splitB ⟨([44]:List UInt8).toArray⟩ 0 15 ⟨Tg.Un.tagsS.toArray⟩).map Value.string=Tg.Un.tagsL.map str:=by
   have:Lib.splitB ⟨([44]:List UInt8).toArray⟩ 0 15 ⟨Tg.Un.tagsS.toArray⟩=Tg.Un.tagsL.map fun l=>(⟨l.toArray⟩:ByteArray):=by decide+kernel
   rw [this,List.map_map];rfl
  rw [hc,hl]at h1;unfold Tg.Un.tagsS at h1;simp [h1]
 rw [h,e,dH (by simp [ao,az,aA])]
theorem Bg {k:Nat} {e:TypeId} {r:Bool} (hs:s.length<=1000000) (ht:t.length<=100000) (hk:H.get k=some ⟨[str s],e,r⟩):LC Tryz.prog EJ 139 [str t,ptr k 0] H=some (.bool (Tg.Un.tagged s t),H):=by
 refine ag rfl Tryz.func139 rfl (Nat.le_of_ble_eq_true rfl) (by decide) (by kernel_rfl) rfl ?_;have h1:=fun H:LH=>xM (H:=H) (s:=s) (t:=t) hs ht;simp [h1,hk]
theorem xN (hs:s.length<=1000000) (hm:dU H):LC Tryz.prog EJ 96 [str s] H=some (.bool (Tg.Un.html s),H):=by
 refine ag rfl Tryz.func96 rfl (Nat.le_of_ble_eq_true rfl) (by decide) (by kernel_rfl) rfl ?_;have h1:=fun H:LH=>uw (H:=H) (s:= [60,33,45,45]) (t:= [116,101,120,116,47,104,116,109,108]) (by decide);unfold Tg.Un.html;rw [show Tg.Un.htmlT= [116,101,120,116,47,104,116,109,108] from rfl];generalize Tg.Un.tag [60,33,45,45] [116,101,120,116,47,104,116,109,108]=p at*;have h2:=fun H:LH=>jJ (H:=H) (s:=s) (p:=p) (by omega);cases hh:Tg.Un.hits p s with
 |true=>rw [hh]at h2;simp [h1,h2]
 |false=>
  rw [hh]at h2;have ht:=Kw (H:=H.new ⟨[str s],9,true⟩) (show dU (H.new _) from hm);have hr:dW ((H.new ⟨[str s],9,true⟩).new ⟨Tg.Un.tagsL.map str,9,true⟩) (sl (H.new ⟨[str s],9,true⟩).n 16 16) Tg.Un.tagsL:=dW.of (k:=(H.new ⟨[str s],9,true⟩).n) (c:=16) (rest:= []) (by rw [ak,List.append_nil]) (Nat.lt_succ_self _);have hl: ∀x∈Tg.Un.tagsL,x.length<=100:=by decide
  have h3:=jK (g:=139) (caps:= [ptr H.n 0]) (q:=Tg.Un.tagged s) hr (by decide) (fun x hx=>Bg (e:=9) (r:=true) hs (by have:=hl x hx;omega) (by rw [aa (by simp),ak]));simp only [aL]at ht h3;simp [h1,h2,ht,h3]
end
end Go.Proofs.YtbeoilidocfofaaGreatDoor
namespace Tg.Un
def iexP (b t:List UInt8):Pat:=⟨b,List.replicate b.length 255,[],t⟩
end Tg.Un
namespace Go.Proofs.YtbeoilidocfofaaGreatDoor
open Go.Lg Go.Tg
section
variable {H:LH} {s t:List UInt8}
theorem lR (c:UInt8): ∀n:Nat,Lib.repeatL [c] n=List.replicate n c
 |0=>rfl
 |n+1=>by
  show [c]++Lib.repeatL [c] n=_;rw [lR c n,List.replicate_succ];rfl
theorem Bh {k:Nat} (hs:s.length<=1000) (hk:k<=1000):LC Tryz.prog EJ 141 [str s,.int .i64 k,str t] H=some (pv (Tg.Un.exactP s k t),H):=by
 refine ag rfl Tryz.func141 rfl (Nat.le_of_ble_eq_true rfl) (by decide) (by kernel_rfl) rfl ?_;have h1:=fun H:LH=>nd (H:=H) (s:= [0]) (c:=k) (by omega) (by omega) (by decide);have h2:=fun H:LH=>nd (H:=H) (s:= [255]) (c:=s.length) (by omega) (by omega) (by decide);rw [Int.toNat_natCast,lR]at h1;rw [Int.toNat_natCast,lR]at h2;have q1:=eq_true (show s.length+k<=9223372036854775807 by omega);simp [h1,h2,q1,jI,Tg.Un.exactP]
theorem Bi (hs:s.length<=1000000):LC Tryz.prog EJ 97 [str s] H=some (.bool (Tg.Un.xml s),H):=by
 refine ag rfl Tryz.func97 rfl (Nat.le_of_ble_eq_true rfl) (by decide) (by kernel_rfl) rfl ?_;have h1: ∀H:LH,LC Tryz.prog EJ 141 [str [60,63,120,109,108],.int .i64 0,str [116,101,120,116,47,120,109,108]] H=some (pv ⟨[60,63,120,109,108],[255,255,255,255,255],[],[116,101,120,116,47,120,109,108]⟩,H):=fun H=>Bh (k:=0) (by decide) (by decide);have h2: ∀H:LH,LC Tryz.prog EJ 137 [str [60],str [116,101,120,116,47,104,116,109,108]] H=some (pv ⟨[60],[255],[9,10,12,13,32],[116,101,120,116,47,104,116,109,108]⟩,H):=fun H=>uw (by decide);have h3: ∀H:LH,LC Tryz.prog EJ 136 [str s,pv ⟨[60,63,120,109,108],[255,255,255,255,255],[9,10,12,13,32],[116,101,120,116,47,120,109,108]⟩] H=some (.bool (Tg.Un.xml s),H):=fun H=>jJ (by omega);simp [h1,h2,h3]
theorem E' (hs:s.length<=1000000) (hm:dU H):LC Tryz.prog EJ 68 [str s] H=some (.bool (Tg.Un.html s),H):=by
 refine ag rfl Tryz.func68 rfl (Nat.le_of_ble_eq_true rfl) (by decide) (by kernel_rfl) rfl ?_;have h1:=xN (H:=H) hs hm;simp [h1]
theorem Kx (hs:s.length<=1000000):LC Tryz.prog EJ 69 [str s] H=some (.bool (Tg.Un.xml s),H):=by
 refine ag rfl Tryz.func69 rfl (Nat.le_of_ble_eq_true rfl) (by decide) (by kernel_rfl) rfl ?_;have h1:=fun H:LH=>Bi (H:=H) (s:=s) hs;simp [h1]
theorem dx (hs:s.length<=1000):LC Tryz.prog EJ 302 [str s,str t] H=some (pv (Tg.Un.iexP s t),H):=by
 refine ag rfl Tryz.func302 rfl (Nat.le_of_ble_eq_true rfl) (by decide) (by kernel_rfl) rfl ?_;have h2:=fun H:LH=>nd (H:=H) (s:= [255]) (c:=s.length) (by omega) (by omega) (by decide);rw [Int.toNat_natCast,lR]at h2;simp [h2,jI,Tg.Un.iexP]
theorem Fa:LC Tryz.prog EJ 303 [str [82,73,70,70],str [87,69,66,80,86,80],str [105,109,97,103,101,47,119,101,98,112]] H=some (pv ⟨[82,73,70,70,0,0,0,0,87,69,66,80,86,80],[255,255,255,255,0,0,0,0,255,255,255,255,255,255],[],[105,109,97,103,101,47,119,101,98,112]⟩,H):=by
 refine ag rfl Tryz.func303 rfl (Nat.le_of_ble_eq_true rfl) (by decide) (by kernel_rfl) rfl ?_;have h1: ∀H:LH,LC Tryz.prog EJ 302 [str [82,73,70,70,0,0,0,0,87,69,66,80,86,80],str [105,109,97,103,101,47,119,101,98,112]] H=some (pv ⟨[82,73,70,70,0,0,0,0,87,69,66,80,86,80],[255,255,255,255,255,255,255,255,255,255,255,255,255,255],[],[105,109,97,103,101,47,119,101,98,112]⟩,H):=fun H=>dx (by decide);simp [h1]
theorem Fb:LC Tryz.prog EJ 279 [] H=some (sl H.n 8 8,H.new ⟨Tg.Un.pcells Tg.Un.imageL,158,true⟩):=by
 obtain⟨r,h,e⟩: ∃r,LC Tryz.prog EJ 279 [] H=some (Lg.trunc H r)/\r=(sl H.n 8 8,H.new ⟨Tg.Un.pcells Tg.Un.imageL,158,true⟩):=by
  refine aD (P:=Tryz.prog) (E:=EJ) (f:=279) rfl Tryz.func279 rfl (Nat.le_of_ble_eq_true rfl) (by decide) (by kernel_rfl) ?_;have h0: ∀H:LH,LC Tryz.prog EJ 302 [str [0,0,1,0],str [105,109,97,103,101,47,120,45,105,99,111,110]] H=some (pv ⟨[0,0,1,0],[255,255,255,255],[],[105,109,97,103,101,47,120,45,105,99,111,110]⟩,H):=fun H=>dx (by decide);have h1: ∀H:LH,LC Tryz.prog EJ 302 [str [0,0,2,0],str [105,109,97,103,101,47,120,45,105,99,111,110]] H=some (pv ⟨[0,0,2,0],[255,255,255,255],[],[105,109,97,103,101,47,120,45,105,99,111,110]⟩,H):=fun H=>dx (by decide);have h2: ∀H:LH,LC Tryz.prog EJ 302 [str [66,77],str [105,109,97,103,101,47,98,109,112]] H=some (pv ⟨[66,77],[255,255],[],[105,109,97,103,101,47,98,109,112]⟩,H):=fun H=>dx (by decide);have h3: ∀H:LH,LC Tryz.prog EJ 302 [str [71,73,70,56,55,97],str [105,109,97,103,101,47,103,105,102]] H=some (pv ⟨[71,73,70,56,55,97],[255,255,255,255,255,255],[],[105,109,97,103,101,47,103,105,102]⟩,H):=fun H=>dx (by decide);have h4: ∀H:LH,LC Tryz.prog EJ 302 [str [71,73,70,56,57,97],str [105,109,97,103,101,47,103,105,102]] H=some (pv ⟨[71,73,70,56,57,97],[255,255,255,255,255,255],[],[105,109,97,103,101,47,103,105,102]⟩,H):=fun H=>dx (by decide);have h5:=fun H:LH=>Fa (H:=H);have h6: ∀H:LH,LC Tryz.prog EJ 302 [str [137,80,78,71,13,10,26,10],str [105,109,97,103,101,47,112,110,103]] H=some (pv ⟨[137,80,78,71,13,10,26,10],[255,255,255,255,255,255,255,255],[],[105,109,97,103,101,47,112,110,103]⟩,H):=fun H=>dx (by decide);have h7: ∀H:LH,LC Tryz.prog EJ 302 [str [255,216,255],str [105,109,97,103,101,47,106,112,101,103]] H=some (pv ⟨[255,216,255],[255,255,255],[],[105,109,97,103,101,47,106,112,101,103]⟩,H):=fun H=>dx (by decide);simp [h0,h1,h2,h3,h4,h5,h6,h7,Q9];rfl
 rw [h,e,dH (by simp [ao,az,aA])]
theorem Ky {l:List Tg.Un.Pat} {n:Nat} (hn:n=l.length):iL (H.new ⟨Tg.Un.pcells l,158,true⟩) (sl H.n n n) l:=by
 subst hn;exact iL.of (k:=H.n) (c:=l.length) (rest:= []) (by rw [ak,List.append_nil]) (Nat.lt_succ_self _)
theorem Bj (hs:s.length<=1000000):LC Tryz.prog EJ 246 [str s] H=some (str (Tg.Un.typeOf s Tg.Un.imageL),H):=by
 refine ag rfl Tryz.func246 rfl (Nat.le_of_ble_eq_true rfl) (by decide) (by kernel_rfl) rfl ?_;have h1:=fun H:LH=>Fb (H:=H);have h2:=A9 (s:=s) (Ky (H:=H) (l:=Tg.Un.imageL) (n:=8) rfl) (by decide) (by omega);simp [h1,h2]
theorem Bk (hs:s.length<=1000000):LC Tryz.prog EJ 204 [str s] H=some (str (Tg.Un.typeOf s Tg.Un.imageL),H):=by
 refine ag rfl Tryz.func204 rfl (Nat.le_of_ble_eq_true rfl) (by decide) (by kernel_rfl) rfl ?_;have h1:=fun H:LH=>Bj (H:=H) (s:=s) hs;simp [h1]
end
end Go.Proofs.YtbeoilidocfofaaGreatDoor
namespace Tg.Un
end Tg.Un
namespace Go.Proofs.YtbeoilidocfofaaGreatDoor
open Go.Lg Go.Tg
section
variable {H:LH} {s t l:List UInt8}
end
end Go.Proofs.YtbeoilidocfofaaGreatDoor
namespace Tg.Un
end Tg.Un
namespace Go.Proofs.YtbeoilidocfofaaGreatDoor
open Go.Lg Go.Tg
section
variable {H:LH} {c:UInt8} {s p t:List UInt8}
end
end Go.Proofs.YtbeoilidocfofaaGreatDoor
namespace Tg.Un
end Tg.Un
namespace Go.Proofs.YtbeoilidocfofaaGreatDoor
open Go.Lg Go.Tg
section
variable {H:LH} {c:UInt8} {s p t:List UInt8}
end
end Go.Proofs.YtbeoilidocfofaaGreatDoor
namespace Tg.Un
open Go
theorem fdivn (n m:Nat):((n:Int).fdiv (m:Int))=((n/m:Nat):Int):=by
 rw [Int.fdiv_eq_ediv_of_nonneg _ (Int.natCast_nonneg m)];rfl
theorem and3 {n:Nat} (h:n<256):Go.Lg.bAnd .u8 (n:Int) 3=((n%4:Nat):Int):=by
 have: ∀k:Fin 256,Go.Lg.bAnd .u8 (k.1:Int) 3=((k.1%4:Nat):Int):=by decide+kernel
 exact this ⟨n,h⟩
theorem and1 {n:Nat} (h:n<256):Go.Lg.bAnd .u8 (n:Int) 1=((n%2:Nat):Int):=by
 have: ∀k:Fin 256,Go.Lg.bAnd .u8 (k.1:Int) 1=((k.1%2:Nat):Int):=by decide+kernel
 exact this ⟨n,h⟩
theorem and1i {n:Nat} (h:n<4):Go.Lg.bAnd .i64 (n:Int) 1=((n%2:Nat):Int):=by
 have: ∀k:Fin 4,Go.Lg.bAnd .i64 (k.1:Int) 1=((k.1%2:Nat):Int):=by decide+kernel
 exact this ⟨n,h⟩
def ratesL (o:Bool):List Nat:=if o=true then rateO else rateE
theorem ratesL_len (o:Bool):(ratesL o).length=15:=by cases o<;>rfl
theorem ratesL_le (o:Bool): ∀x∈ratesL o,x<=320:=by cases o<;>decide
structure FrmOk (f:Frm):Prop where
 v:f.v<4
 r: ∃x∈ratesL (decide (f.v%2=1)),f.r=1000*x
 f:f.f∈freqs
end Tg.Un
namespace Go.Proofs.YtbeoilidocfofaaGreatDoor
open Go.Lg Go.Tg
def dk (l:List Nat):List Value:=l.map fun(n:Nat)=>Value.int .i64 (n:Int)
abbrev My (f:Tg.Un.Frm):Value:=.agg #[.int .i64 f.v,.int .i64 3,.int .i64 f.r,.int .i64 f.f,.bool f.p]
abbrev S9:Value:=.agg #[.int .i64 0,.int .i64 0,.int .i64 0,.int .i64 0,.bool false]
def vR:Option Tg.Un.Frm->Value
 |some f=>My f
 |none=>S9
section
variable {H:LH} {s t:List UInt8} {v:Value} {l:List Nat}
theorem Bl {V:Nat} (h:V<4) {b r f:Int} {p:Bool} :LC Tryz.prog EJ 315 [.agg #[.int .i64 V,.int .i64 b,.int .i64 r,.int .i64 f,.bool p]] H=some (.bool (decide (V%2=1)),H):=by
 refine ag rfl Tryz.func315 rfl (Nat.le_of_ble_eq_true rfl) (by decide) (by kernel_rfl) rfl ?_;have h1:=Tg.Un.and1i h;have h2:V%2<2:=Nat.mod_lt _ (by decide);generalize V%2=y at*;by_cases hy:y=1
 ·subst hy;simp [h1]
 ·have q:=eq_false (show¬(y:Int)=1 by omega);simp [h1,hy,q]
theorem vS {a:Tg.Un.Frm} (h:a.v<4):LC Tryz.prog EJ 315 [My a] H=some (.bool (decide (a.v%2=1)),H):=Bl h
theorem vT {o:Bool} :LC Tryz.prog EJ 314 [.bool o] H=some (sl H.n 15 15,H.new ⟨dk (Tg.Un.ratesL o),3,true⟩):=by
 obtain⟨r,h,e⟩: ∃r,LC Tryz.prog EJ 314 [.bool o] H=some (Lg.trunc H r)/\r=(sl H.n 15 15,H.new ⟨dk (Tg.Un.ratesL o),3,true⟩):=by
  refine aD (P:=Tryz.prog) (E:=EJ) (f:=314) rfl Tryz.func314 rfl (Nat.le_of_ble_eq_true rfl) (by decide) (by kernel_rfl) ?_;have b1: ∀ {ps:List (Nat×Value)} {H:LH},ps.length=15->cR ps 0=true->aG Tryz.prog 170 15 ps H=some (sl H.n 15 15,H.new ⟨ps.map Prod.snd,3,true⟩):=fun h1 h2=>fK (z:=.int .i64 0) Tryz.underlying170 (by kernel_rfl) (by kernel_rfl) rfl rfl h1.symm (by decide) h2;cases o
  ·simp [b1,cR];rfl
  ·simp [b1,cR];rfl
 rw [h,e,dH (by simp [ao,az,aA])]
theorem vU:LC Tryz.prog EJ 316 [] H=some (sl H.n 3 3,H.new ⟨dk Tg.Un.freqs,3,true⟩):=by
 obtain⟨r,h,e⟩: ∃r,LC Tryz.prog EJ 316 [] H=some (Lg.trunc H r)/\r=(sl H.n 3 3,H.new ⟨dk Tg.Un.freqs,3,true⟩):=by
  refine aD (P:=Tryz.prog) (E:=EJ) (f:=316) rfl Tryz.func316 rfl (Nat.le_of_ble_eq_true rfl) (by decide) (by kernel_rfl) ?_;have b1: ∀ {ps:List (Nat×Value)} {H:LH},ps.length=3->cR ps 0=true->aG Tryz.prog 170 3 ps H=some (sl H.n 3 3,H.new ⟨ps.map Prod.snd,3,true⟩):=fun h1 h2=>fK (z:=.int .i64 0) Tryz.underlying170 (by kernel_rfl) (by kernel_rfl) rfl rfl h1.symm (by decide) h2;simp [b1,cR];rfl
 rw [h,e,dH (by simp [ao,az,aA])]
theorem Bm {k i:Nat} {e:TypeId} {r:Bool} (hk:H.get k=some ⟨dk l,e,r⟩) (hi:i<l.length):gI Tryz.prog 3 (ptr k i) H=some (.int .i64 l[i]):=by
 rw [fk hk,show aF Tryz.prog 3=some false by kernel_rfl,hZ];simp [dk,hi]
theorem vV {k c:Nat} {e:TypeId} {r:Bool} {x:Nat} (hk:H.get k=some ⟨dk l,e,r⟩) (hl:l.length<=1000):LC Tryz.prog EJ 170 [.slice (some ⟨k,0,none⟩) l.length c,.int .i64 x] H=some (.bool (decide (x∈l)),H):=by
 have hix: ∃i:Int,LC Tryz.prog EJ 218 [.slice (some ⟨k,0,none⟩) l.length c,.int .i64 x] H=some (.int .i64 i,H)/\(0<=i↔x∈l):=by
  obtain⟨i,hi⟩: ∃i:Int,i=Tg.Un.idx (fun y=>decide (x=y)) l 0:=⟨_,rfl⟩
  refine⟨i,?_,?_⟩
  ·refine ag rfl Tryz.func218 rfl (Nat.le_of_ble_eq_true rfl) (by decide) (by kernel_rfl) rfl ?_;simp;refine aK (fun(j:Nat) fr' H'=>fr' 0=.slice (some ⟨k,0,none⟩) l.length c/\fr' 1=.int .i64 x/\fr' 7=.int .i64 l.length/\fr' 8=.int .i64 j/\j<=l.length/\i=Tg.Un.idx (fun y=>decide (x=y)) (l.drop j) j/\H'=H) (fun j=>l.length-j) 0 ⟨by simp,by simp,by simp,by simp,Nat.zero_le _,hi,rfl⟩ ?_;rintro j fr' H' ⟨h0,h1,h7,h8,hj,hc,rfl⟩ ih;by_cases hlt:j<l.length
   ·have q:=eq_true (show(j:Int)<(l.length:Int) by omega);have hw:IntKind.i64.wrap ((j:Int)+1)=((j+1:Nat):Int):=by rw [wrapI (by omega) (by omega)];omega
    have g:=Bm (i:=j) hk hlt;rw [List.drop_eq_getElem_cons hlt]at hc;generalize l[j]=a at*;unfold Tg.Un.idx at hc;by_cases hf:x=a
    ·rw [if_pos (decide_eq_true hf)]at hc;have q2:=eq_true (show(x:Int)=(a:Int) by omega);subst hc;simp [h0,h1,h7,h8,q,g,q2]
    ·rw [if_neg (by simp [hf])]at hc;have q2:=eq_false (show¬(x:Int)=(a:Int) by omega);simp [h0,h1,h7,h8,q,g,q2];refine ih (j+1) _ _ (by omega) ⟨?_,?_,?_,?_,by omega,hc,rfl⟩
     all_goals simp [h0,h1,h7,hw]
   ·have q:=eq_false (show¬(j:Int)<(l.length:Int) by omega);rw [List.drop_of_length_le (by omega)]at hc;have hc:i= -1:=hc;subst hc;simp [h0,h1,h7,h8,q]
  ·have:=Tg.Un.idx_any (fun y=>decide (x=y)) l 0;rw [<-hi]at this;constructor
   ·intro h;rw [decide_eq_true h]at this;obtain⟨y,hy,e⟩:=List.any_eq_true.1 this.symm;rw [of_decide_eq_true e];exact hy
   ·intro h;have h2:l.any (fun y=>decide (x=y))=true:=List.any_eq_true.2 ⟨x,h,by simp⟩;rw [h2]at this;exact of_decide_eq_true this
 obtain⟨i,h1,h2⟩:=hix;refine ag rfl Tryz.func170 rfl (Nat.le_of_ble_eq_true rfl) (by decide) (by kernel_rfl) rfl ?_;by_cases h:x∈l
 ·have q:=eq_true (h2.2 h);simp [h1,q,h]
 ·have q:=eq_false (fun e=>h (h2.1 e));simp [h1,q,h]
theorem Bn {a:Tg.Un.Frm} (h:Tg.Un.FrmOk a):LC Tryz.prog EJ 326 [My a] H=some (.bool true,H):=by
 refine ag rfl Tryz.func326 rfl (Nat.le_of_ble_eq_true rfl) (by decide) (by kernel_rfl) rfl ?_;obtain⟨hv,⟨x,hx,hr⟩,hf⟩:=h;have h1:=fun H:LH=>vS (H:=H) hv;have h2:=fun H:LH=>vT (H:=H) (o:=decide (a.v%2=1));have h3:=fun H:LH=>vU (H:=H);generalize decide (a.v%2=1)=o at*;have hxl:=Tg.Un.ratesL_le o x hx;have hrl:=Tg.Un.ratesL_len o;have c1:=vV (H:=(H.new ⟨[.int .i64 a.v,.int .i64 3,.int .i64 a.r,.int .i64 a.f,.bool a.p],261,true⟩).new ⟨dk (Tg.Un.ratesL o),3,true⟩) (k:=H.n+1) (c:=15) (l:=Tg.Un.ratesL o) (x:=x) (e:=3) (r:=true) (by rw [show H.n+1=(H.new ⟨[.int .i64 a.v,.int .i64 3,.int .i64 a.r,.int .i64 a.f,.bool a.p],261,true⟩).n from rfl,ak]) (by omega);rw [decide_eq_true hx,hrl]at c1;have q1:((a.r:Nat):Int).tmod 1000=0:=by rw [hr,Int.tmod_eq_emod_of_nonneg (by omega)];omega
 have q2:((a.r:Nat):Int).tdiv 1000=(x:Int):=by rw [hr,Int.tdiv_eq_ediv_of_nonneg (by omega)];omega
 have hwx:IntKind.i64.wrap (x:Int)=(x:Int):=wrapI (by omega) (by omega);have c2:=vV (H:=((H.new ⟨[.int .i64 a.v,.int .i64 3,.int .i64 a.r,.int .i64 a.f,.bool a.p],261,true⟩).new ⟨dk (Tg.Un.ratesL o),3,true⟩).new ⟨dk Tg.Un.freqs,3,true⟩) (k:=H.n+1+1) (c:=3) (l:=Tg.Un.freqs) (x:=a.f) (e:=3) (r:=true) (by rw [show H.n+1+1=((H.new ⟨[.int .i64 a.v,.int .i64 3,.int .i64 a.r,.int .i64 a.f,.bool a.p],261,true⟩).new ⟨dk (Tg.Un.ratesL o),3,true⟩).n from rfl,ak]) (by decide);rw [decide_eq_true hf,show Tg.Un.freqs.length=3 from rfl]at c2;have q3:=eq_true (show(a.v:Int)<=3 by omega);have q4:=eq_true (show(0:Int)<=(a.v:Int) by omega)
 have hg:(((H.new ⟨[.int .i64 a.v,.int .i64 3,.int .i64 a.r,.int .i64 a.f,.bool a.p],261,true⟩).new ⟨dk (Tg.Un.ratesL o),3,true⟩).new ⟨dk Tg.Un.freqs,3,true⟩).get H.n=some ⟨[.int .i64 a.v,.int .i64 3,.int .i64 a.r,.int .i64 a.f,.bool a.p],261,true⟩:=by
  rw [aa (by simp only [aL];omega),aa (by simp only [aL];omega),ak]
 simp [h1,h2,h3,c1,c2,q1,q2,q3,q4,hwx,hg];exact le_refl.new.new.new
theorem Bo {a:Tg.Un.Frm} (h:Tg.Un.FrmOk a):LC Tryz.prog EJ 313 [My a] H=some (.int .i64 (Tg.Un.flen a),H):=by
 have h1:=fun H:LH=>Bn (H:=H) h
 have h2: ∀H:LH,LC Tryz.prog EJ 327 [My a,.int .i64 72] H=some (.int .i64 ((if a.v%2=1 then 144 else 72:Nat):Int),H):=fun H=>by
  have h2:=fun H:LH=>vS (H:=H) h.v;refine ag rfl Tryz.func327 rfl (Nat.le_of_ble_eq_true rfl) (by decide) (by kernel_rfl) rfl ?_;by_cases ho:a.v%2=1
  ·rw [decide_eq_true ho]at h2;rw [if_pos ho];simp [h2]
  ·rw [decide_eq_false ho]at h2;rw [if_neg ho];simp [h2]
 obtain⟨hv,⟨x,hx,hr⟩,hf⟩:=h;have hxl:=Tg.Un.ratesL_le _ x hx
 have hf0:32000<=a.f/\a.f<=48000:=by
  have: ∀y∈Tg.Un.freqs,32000<=y/\y<=48000:=by decide
  exact this _ hf
 refine ag rfl Tryz.func313 rfl (Nat.le_of_ble_eq_true rfl) (by decide) (by kernel_rfl) rfl ?_;unfold Tg.Un.flen;obtain⟨k,hk⟩: ∃k:Nat,k=if a.v%2=1 then 144 else 72:=⟨_,rfl⟩
 have hk2:k<=144:=by rw [hk];split<;>omega
 rw [<-hk]at h2⊢;have hm:a.r*k<=320000*144:=Nat.mul_le_mul (by omega) hk2;have hw1:IntKind.i64.wrap ((a.r:Int)*(k:Int))=((a.r*k:Nat):Int):=by rw [wrapI (by rw [<-Int.natCast_mul];omega) (by rw [<-Int.natCast_mul];omega),Int.natCast_mul]
 obtain⟨m,hm0⟩: ∃m,m=a.r*k:=⟨_,rfl⟩
 rw [<-hm0]at hw1 hm⊢;obtain⟨d,hd⟩: ∃d,d=m/a.f:=⟨_,rfl⟩
 have hdl:d<=m:=by rw [hd];exact Nat.div_le_self _ _
 have hq:(m:Int).tdiv (a.f:Int)=(d:Int):=by rw [hd,Int.tdiv_eq_ediv_of_nonneg (by omega)];rfl
 have hw2:IntKind.i64.wrap (d:Int)=(d:Int):=wrapI (by omega) (by omega);have hw3:IntKind.i64.wrap ((d:Int)+1)=(d:Int)+1:=wrapI (by omega) (by omega);have hne:=eq_false (show¬(a.f:Int)=0 by omega);have hne2:=eq_false (show¬a.f=0 by omega);rw [<-hd];clear hk hd hm0 hv hr hx hf;obtain⟨av,ar,af,ap⟩:=a;simp only at*;cases ap with
 |false=>simp [h1,h2,hw1,hq,hw2,hne,hne2]
 |true=>simp [h1,h2,hw1,hq,hw2,hw3,hne,hne2]
@[simp] theorem Mz {o:Option Tg.Un.Frm} :az (vR o)=true:=by cases o<;>rfl
theorem Fc {o:Option Tg.Un.Frm} {b:Bool} :ao (.tuple #[vR o,.bool b])=true:=by cases o<;>rfl
theorem jM {a b:Int} {c:Bool} :bG Tryz.prog 261 [.int .i64 0,.int .i64 0,.int .i64 0,.int .i64 0,.bool false] [(0,.int .i64 a),(1,.int .i64 b),(4,.bool c)]=some [.int .i64 a,.int .i64 b,.int .i64 0,.int .i64 0,.bool c]:=by
 rw [aB (o:=0) (n:=1) (g:=false) (by simp) rfl (by simp) (by simp),aB (o:=1) (n:=1) (g:=false) (by simp) rfl (by simp) (by simp),aB (o:=4) (n:=1) (g:=false) (by simp) rfl (by simp) (by simp)];simp
theorem ni (hs:s.length<=1048576):LC Tryz.prog EJ 300 [str s] H=some (.tuple #[vR (Tg.Un.head3 s),.bool (Tg.Un.head3 s).isSome],H):=by
 refine ag rfl Tryz.func300 rfl (Nat.le_of_ble_eq_true rfl) (by decide) (by kernel_rfl) Fc ?_;by_cases hlen:s.length<4
 ·have q:=eq_true (show(s.length:Int)<4 by omega)
  have e:Tg.Un.head3 s=none:=by
   match s,hlen with
   | [],_=>rfl
   | [_],_=>rfl
   | [_,_],_=>rfl
   | [_,_,_],_=>rfl
  rw [e];simp [q,vR]
 ·obtain⟨A,B,C,D,r,rfl⟩: ∃A B C D r,s=A::B::C::D::r:=by
   match s,hlen with
   |A::B::C::D::r,_=>exact⟨A,B,C,D,r,rfl⟩
   | [],h=>exact absurd (by simp) h
   | [_],h=>exact absurd (by simp) h
   | [_,_],h=>exact absurd (by simp) h
   | [_,_,_],h=>exact absurd (by simp) h
  have q:=eq_false (show¬(r.length:Int)+1+1+1+1<4 by omega);have a0:at_ (A::B::C::D::r) 0=A:=rfl;have a1:at_ (A::B::C::D::r) 1=B:=rfl;have a2:at_ (A::B::C::D::r) 2=C:=rfl
  have h4:Tg.Un.head3 (A::B::C::D::r)=if A.toNat=255/\224<=B.toNat/\B.toNat/2%4=1/\C.toNat/16<15/\C.toNat/4%4<3 then
   some ⟨B.toNat/8%4,1000*(if B.toNat/8%2=1 then Tg.Un.rateO else Tg.Un.rateE).getD (C.toNat/16) 0,Tg.Un.freqs.getD (C.toNat/4%4) 0,C.toNat/2%2==1⟩else none:=rfl
  have p0:=eq_true (show(0:Int)<(r.length:Int)+1+1+1+1 by omega);have p1:=eq_true (show(1:Int)<(r.length:Int)+1+1+1+1 by omega);have p2:=eq_true (show(2:Int)<(r.length:Int)+1+1+1+1 by omega);have hB:=B.toNat_lt;have hC:=C.toNat_lt;have hB:=B.toNat_lt;have hC:=C.toNat_lt;by_cases hA:A.toNat=255
  ·have qA:=eq_true (show(A.toNat:Int)=255 by omega);have f32:(B.toNat:Int).fdiv (2^min 5 IntKind.u8.bits)=((B.toNat/32:Nat):Int):=by rw [show(2:Int)^min 5 IntKind.u8.bits=((32:Nat):Int) from rfl];exact Tg.Un.fdivn _ 32
   by_cases hB2:224<=B.toNat
   ·rw [show B.toNat/32=7 by omega]at f32;have f8:(B.toNat:Int).fdiv (2^min 3 IntKind.u8.bits)=((B.toNat/8:Nat):Int):=by rw [show(2:Int)^min 3 IntKind.u8.bits=((8:Nat):Int) from rfl];exact Tg.Un.fdivn _ 8
    have f2:(B.toNat:Int).fdiv (2^min 1 IntKind.u8.bits)=((B.toNat/2:Nat):Int):=by rw [show(2:Int)^min 1 IntKind.u8.bits=((2:Nat):Int) from rfl];exact Tg.Un.fdivn _ 2
    have g2:(C.toNat:Int).fdiv (2^min 1 IntKind.u8.bits)=((C.toNat/2:Nat):Int):=by rw [show(2:Int)^min 1 IntKind.u8.bits=((2:Nat):Int) from rfl];exact Tg.Un.fdivn _ 2
    have g4:(C.toNat:Int).fdiv (2^min 2 IntKind.u8.bits)=((C.toNat/4:Nat):Int):=by rw [show(2:Int)^min 2 IntKind.u8.bits=((4:Nat):Int) from rfl];exact Tg.Un.fdivn _ 4
    have g16:(C.toNat:Int).fdiv (2^min 4 IntKind.u8.bits)=((C.toNat/16:Nat):Int):=by rw [show(2:Int)^min 4 IntKind.u8.bits=((16:Nat):Int) from rfl];exact Tg.Un.fdivn _ 16
    have n8:=Tg.Un.and3 (n:=B.toNat/8) (by omega);have n2:=Tg.Un.and3 (n:=B.toNat/2) (by omega);have m2:=Tg.Un.and1 (n:=C.toNat/2) (by omega);have m4:=Tg.Un.and3 (n:=C.toNat/4) (by omega);have e8:B.toNat/8%4<4:=Nat.mod_lt _ (by decide);have e2:B.toNat/2%4<4:=Nat.mod_lt _ (by decide);have k2:C.toNat/2%2<2:=Nat.mod_lt _ (by decide);have k4:C.toNat/4%4<4:=Nat.mod_lt _ (by decide);have S_:C.toNat/16<16:=by omega
    have ho:B.toNat/8%2=B.toNat/8%4%2:=by omega
    have hh:Tg.Un.head3 (A::B::C::D::r)=if B.toNat/2%4=1/\C.toNat/16<15/\C.toNat/4%4<3 then some ⟨B.toNat/8%4,1000*(if B.toNat/8%4%2=1 then Tg.Un.rateO else Tg.Un.rateE).getD (C.toNat/16) 0,Tg.Un.freqs.getD (C.toNat/4%4) 0,C.toNat/2%2==1⟩else none:=by
     rw [h4,ho];simp only [hA,hB2,true_and]
    rw [hh];clear hh ho hB hC;generalize B.toNat/8%4=V at*;generalize B.toNat/2%4=Y at*;generalize C.toNat/2%2=Pd at*;generalize C.toNat/4%4=Fi at*;generalize B.toNat/8=B8 at*;generalize B.toNat/2=B2 at*;generalize C.toNat/2=C2 at*;generalize C.toNat/4=C4 at*;generalize C.toNat/16=Ri at*;have w1:IntKind.i64.wrap (V:Int)=(V:Int):=wrapI (by omega) (by omega);have w2:IntKind.i64.wrap (Y:Int)=(Y:Int):=wrapI (by omega) (by omega);have w3:IntKind.i64.wrap (Ri:Int)=(Ri:Int):=wrapI (by omega) (by omega);have w4:IntKind.i64.wrap (Fi:Int)=(Fi:Int):=wrapI (by omega) (by omega);have w5:IntKind.i64.wrap (4-(Y:Int))=4-(Y:Int):=wrapI (by omega) (by omega);have hod:bAnd .i64 (V:Int) 1=((V%2:Nat):Int):=Tg.Un.and1i e8;have ha:=fun(H:LH) (b r f:Int) (p:Bool)=>Bl (H:=H) e8 (b:=b) (r:=r) (f:=f) (p:=p);have hr:=fun H:LH=>vT (H:=H) (o:=decide (V%2=1));have hf:=fun H:LH=>vU (H:=H);have z1:(H.n=H.n+1+1)=False:=eq_false (by omega);have z2:(H.n=H.n+1+1+1)=False:=eq_false (by omega);have z3:(H.n+1=H.n+1+1+1)=False:=eq_false (by omega);have z4:(H.n=H.n+1+1+1+1)=False:=eq_false (by omega);have z5:(H.n+1=H.n+1+1+1+1)=False:=eq_false (by omega);have z6:(H.n+1+1=H.n+1+1+1+1)=False:=eq_false (by omega);by_cases hY:Y=1
    ·subst hY;have qY:(4:Int)-((1:Nat):Int)=3:=by decide
     by_cases hR:Ri<15
     ·have qR:=eq_false (show¬(15:Int)<=(Ri:Int) by omega);have qR2:=eq_true (show(Ri:Int)<15 by omega);by_cases hF:Fi<3
      ·have qF:=eq_false (show¬(3:Int)<=(Fi:Int) by omega);have qF2:=eq_true (show(Fi:Int)<3 by omega);rw [if_pos ⟨rfl,hR,hF⟩];have r1:=fun(H:LH) (k:Nat) (h:H.get k=some ⟨dk (Tg.Un.ratesL (decide (V%2=1))),3,true⟩)=>Bm (i:=Ri) h (by rw [Tg.Un.ratesL_len];exact hR);have r2:=fun(H:LH) (k:Nat) (h:H.get k=some ⟨dk Tg.Un.freqs,3,true⟩)=>Bm (i:=Fi) h hF;have hRl:Ri<(Tg.Un.ratesL (decide (V%2=1))).length:=by rw [Tg.Un.ratesL_len];exact hR
       have eR:(if V%2=1 then Tg.Un.rateO else Tg.Un.rateE).getD Ri 0=(Tg.Un.ratesL (decide (V%2=1)))[Ri]:=by
        have:(if V%2=1 then Tg.Un.rateO else Tg.Un.rateE)=Tg.Un.ratesL (decide (V%2=1)):=by unfold Tg.Un.ratesL;by_cases h:V%2=1<;>simp [h]
        rw [this,List.getD_eq_getElem?_getD,List.getElem?_eq_getElem hRl];rfl
       have eF:Tg.Un.freqs.getD Fi 0=Tg.Un.freqs[Fi]'hF:=by rw [List.getD_eq_getElem?_getD,List.getElem?_eq_getElem hF];rfl
       have hx:=Tg.Un.ratesL_le _ _ (List.getElem_mem hRl);rw [eR,eF];generalize (Tg.Un.ratesL (decide (V%2=1)))[Ri]=x at*;generalize Tg.Un.freqs[Fi]=y at*;have hwr:IntKind.i64.wrap (1000*(x:Int))=1000*(x:Int):=wrapI (by omega) (by omega);have z7:(H.n+1+1+1+1=H.n+1)=False:=eq_false (by omega);have z8:(H.n=H.n+1)=False:=eq_false (by omega)
       have hpd:(decide ((Pd:Int)=1))=(Pd==1):=by
        by_cases h:Pd=1
        ·subst h;rfl
        ·have h2: ¬(Pd:Int)=1:=by omega
         simp [h,h2]
       have r3: ∀(Hx:LH) (b:LB),Hx.get (H.n+1+1+1+1)=some ⟨dk Tg.Un.freqs,3,true⟩->gI Tryz.prog 3 (ptr (H.n+1+1+1+1) Fi) (Hx.set (H.n+1) b)=some (.int .i64 y):=fun Hx b h=>r2 _ _ (by rw [ah (by omega)];exact h);simp [q,a0,a1,a2,p0,p1,p2,qA,f32,f8,f2,g2,g4,g16,n8,n2,m2,m4,w1,w2,w3,w4,w5,ha,hr,hf,jM,qR,qR2,qF,qF2,z1,z2,z3,z4,z5,z6,z7,z8,hwr,r1,r2,r3,vR];exact⟨hpd,le_refl.new.new.new.new.new⟩
      ·have qF:=eq_true (show(3:Int)<=(Fi:Int) by omega);have qF2:=eq_false (show¬(Fi:Int)<3 by omega);rw [if_neg (by omega)];simp [q,a0,a1,a2,p0,p1,p2,qA,f32,f8,f2,g2,g4,g16,n8,n2,m2,m4,w1,w2,w3,w4,w5,ha,hr,hf,jM,qR,qR2,qF,qF2,z1,z2,z3,z4,z5,z6,vR];exact le_refl.new.new.new.new
     ·have qR:=eq_true (show(15:Int)<=(Ri:Int) by omega);have qR2:=eq_false (show¬(Ri:Int)<15 by omega);rw [if_neg (by omega)];simp [q,a0,a1,a2,p0,p1,p2,qA,f32,f8,f2,g2,g4,g16,n8,n2,m2,m4,w1,w2,w3,w4,w5,ha,hr,hf,jM,qR,qR2,z1,z2,z3,z4,z5,z6,vR];exact le_refl.new.new.new
    ·have qY:=eq_false (show¬(4:Int)-(Y:Int)=3 by omega);rw [if_neg (by omega)];simp [q,a0,a1,a2,p0,p1,p2,qA,f32,f8,f2,g2,g4,g16,n8,n2,m2,m4,w1,w2,w3,w4,w5,ha,hr,hf,jM,qY,z1,z2,z3,z4,z5,z6,vR];exact le_refl.new.new.new
   ·have e:Tg.Un.head3 (A::B::C::D::r)=none:=by
     rw [h4,if_neg (by omega)]
    obtain⟨u,hu⟩: ∃u,u=B.toNat/32:=⟨_,rfl⟩
    rw [<-hu]at f32;have qu:=eq_false (show¬(u:Int)=7 by omega);have qu2:=eq_false (show¬u=7 by omega);rw [e];simp [q,a0,a1,p0,p1,qA,f32,qu,qu2,vR]
  ·have qA:=eq_false (show¬(A.toNat:Int)=255 by omega)
   have e:Tg.Un.head3 (A::B::C::D::r)=none:=by
    rw [h4,if_neg (by omega)]
   rw [e];simp [q,a0,p0,qA,vR]
theorem Bp {f:Tg.Un.Frm} (h:Tg.Un.head3 s=some f):Tg.Un.FrmOk f:=by
 match s,h with
 |A::B::C::D::r,h=>
  have h4:Tg.Un.head3 (A::B::C::D::r)=if A.toNat=255/\224<=B.toNat/\B.toNat/2%4=1/\C.toNat/16<15/\C.toNat/4%4<3 then
   some ⟨B.toNat/8%4,1000*(if B.toNat/8%2=1 then Tg.Un.rateO else Tg.Un.rateE).getD (C.toNat/16) 0,Tg.Un.freqs.getD (C.toNat/4%4) 0,C.toNat/2%2==1⟩else none:=rfl
  rw [h4]at h;split at h
  ·rename_i hc;obtain⟨_,_,_,hR,hF⟩:=hc;injection h with h;subst h;refine⟨Nat.mod_lt _ (by decide),?_,?_⟩
   ·have ho:B.toNat/8%2=B.toNat/8%4%2:=by omega
    have:(if B.toNat/8%2=1 then Tg.Un.rateO else Tg.Un.rateE)=Tg.Un.ratesL (decide (B.toNat/8%4%2=1)):=by
     unfold Tg.Un.ratesL;rw [ho];by_cases h:B.toNat/8%4%2=1<;>simp [h]
    simp only [this];have hl:C.toNat/16<(Tg.Un.ratesL (decide (B.toNat/8%4%2=1))).length:=by rw [Tg.Un.ratesL_len];exact hR
    exact⟨_,List.getElem_mem hl,by rw [List.getD_eq_getElem?_getD,List.getElem?_eq_getElem hl];rfl⟩
   ·show Tg.Un.freqs.getD (C.toNat/4%4) 0∈Tg.Un.freqs;have hl:C.toNat/4%4<Tg.Un.freqs.length:=hF;rw [List.getD_eq_getElem?_getD,List.getElem?_eq_getElem hl];exact List.getElem_mem hl
  ·cases h
 | [],h=>cases h
 | [_],h=>cases h
 | [_,_],h=>cases h
 | [_,_,_],h=>cases h
theorem uy (hs:s.length<=1048576) (h:Tg.Un.head3 s=none):LC Tryz.prog EJ 299 [str s] H=some (.tuple #[S9,.int .i64 0,.bool false],H):=by
 refine ag rfl Tryz.func299 rfl (Nat.le_of_ble_eq_true rfl) (by decide) (by kernel_rfl) rfl ?_;have h1:=fun H:LH=>ni (H:=H) (s:=s) hs;rw [h]at h1;simp [h1,vR]
theorem uz {f:Tg.Un.Frm} (hs:s.length<=1048576) (h:Tg.Un.head3 s=some f):LC Tryz.prog EJ 299 [str s] H=some (.tuple #[My f,.int .i64 (Tg.Un.flen f),.bool (decide (4<=Tg.Un.flen f)&&decide (Tg.Un.flen f<=s.length))],H):=by
 refine ag rfl Tryz.func299 rfl (Nat.le_of_ble_eq_true rfl) (by decide) (by kernel_rfl) rfl ?_;have h1:=fun H:LH=>ni (H:=H) (s:=s) hs;have h2:=fun H:LH=>Bo (H:=H) (Bp h);rw [h]at h1;generalize Tg.Un.flen f=n at*;by_cases a1:4<=n
 ·have q1:=eq_true (show(4:Int)<=(n:Int) by omega);by_cases a2:n<=s.length
  ·have q2:=eq_true (show(n:Int)<=(s.length:Int) by omega);simp [h1,h2,vR,q1,q2,a1,a2]
  ·have q2:=eq_false (show¬(n:Int)<=(s.length:Int) by omega);simp [h1,h2,vR,q1,q2,a1,a2]
 ·have q1:=eq_false (show¬(4:Int)<=(n:Int) by omega);simp [h1,h2,vR,q1,a1]
theorem Kz (hs:s.length<=1048576):LC Tryz.prog EJ 277 [str s] H=some (.bool (Tg.Un.mp3 s),H):=by
 refine ag rfl Tryz.func277 rfl (Nat.le_of_ble_eq_true rfl) (by decide) (by kernel_rfl) rfl ?_;unfold Tg.Un.mp3;cases h:Tg.Un.head3 s with
 |none=>
  have h1:=fun H:LH=>uy (H:=H) hs h;simp [h1]
 |some f=>
  dsimp only;have h1:=fun H:LH=>uz (H:=H) hs h;by_cases a1:4<=Tg.Un.flen f
  ·by_cases a2:Tg.Un.flen f<=s.length
   ·have h2:=fun H:LH=>ni (H:=H) (s:=s.drop (Tg.Un.flen f)) (by rw [List.length_drop];omega);have q2:=eq_true (show(Tg.Un.flen f:Int)<=(s.length:Int) by omega);rw [decide_eq_true a1,decide_eq_true a2]at h1;generalize Tg.Un.flen f=n at*;simp [h1,h2,a1,a2,q2]
   ·rw [decide_eq_true a1,decide_eq_false a2]at h1;generalize Tg.Un.flen f=n at*;simp [h1,a1,a2]
  ·rw [decide_eq_false a1]at h1;generalize Tg.Un.flen f=n at*;simp [h1,a1]
end
end Go.Proofs.YtbeoilidocfofaaGreatDoor
namespace Tg.Un
end Tg.Un
namespace Go.Proofs.YtbeoilidocfofaaGreatDoor
open Go.Lg Go.Tg
section
variable {H:LH} {s t:List UInt8}
end
end Go.Proofs.YtbeoilidocfofaaGreatDoor
namespace Tg.Un
def mk1 (gap:Bool) (i:Nat):UInt8:=if gap=true/\4<=i/\i<8 then 0 else 255
def maskL (gap:Bool) (n:Nat):List UInt8:=(List.range n).map (mk1 gap)
theorem maskL_at {gap:Bool} {n i:Nat} (h:i<(maskL gap n).length):(maskL gap n)[i]=mk1 gap i:=by simp [maskL]
theorem maskL_len {gap:Bool} {n:Nat} :(maskL gap n).length=n:=by simp [maskL]
theorem part_id {M R:List UInt8} {i:Nat} (hr:R.length=M.length) (hi:i<M.length):(M.take i++R.drop i).set i M[i]=M.take (i+1)++R.drop (i+1):=by
 have h1:(M.take i).length=i:=by simp;omega
 rw [List.set_append_right _ _ (by omega),h1,Nat.sub_self,List.drop_eq_getElem_cons (by omega:i<R.length),List.set_cons_zero,List.take_add_one,List.getElem?_eq_getElem hi,List.append_assoc];rfl
theorem part_same {M R:List UInt8} {i:Nat} (hr:R.length=M.length) (hi:i<M.length) (he:M[i]=R[i]):M.take i++R.drop i=M.take (i+1)++R.drop (i+1):=by
 have hi2:i<R.length:=by omega
 rw [List.drop_eq_getElem_cons hi2,List.take_add_one,List.getElem?_eq_getElem hi,he,List.append_assoc];rfl
end Tg.Un
namespace Go.Proofs.YtbeoilidocfofaaGreatDoor
open Go.Lg Go.Tg
section
variable {H:LH} {s t:List UInt8}
theorem oM {n:Nat} {gap:Bool} (hn:n<=1000):LC Tryz.prog EJ 328 [.int .i64 n,.bool gap] H=some (str (Tg.Un.maskL gap n),H):=by
 refine ag rfl Tryz.func328 rfl (Nat.le_of_ble_eq_true rfl) (by decide) (by kernel_rfl) rfl ?_;have q0:=eq_true (show(0:Int)<=(n:Int) by omega);have q1:=eq_true (show n<=1048576 by omega);have q2:=eq_true (show(n:Int)<=1048576 by omega);simp [q0,q1,q2];refine aK (fun(i:Nat) fr' H'=>fr' 1=.bool gap/\fr' 5=sl H.n n n/\fr' 10=.int .i64 n/\fr' 11=.int .i64 i/\i<=n/\H'.n=H.n+1/\H'.get H.n=some ⟨iB ((Tg.Un.maskL gap n).take i++(List.replicate n 0).drop i),5,true⟩/\ ∀l,l<H.n->H'.get l=H.get l) (fun i=>n-i) 0 ⟨by simp,by simp,by simp,by simp,Nat.zero_le _,by simp,?_,fun l hl=>?_⟩ ?_
 ·rw [ak];simp [iB]
 ·rw [aa (by omega)]
 rintro i fr' H' ⟨g1,g5,g10,g11,hi,hn',hg,ho⟩ ih;by_cases hlt:i<n
 ·have q:=eq_true (show(i:Int)<(n:Int) by omega);have hw:IntKind.i64.wrap ((i:Int)+1)=((i+1:Nat):Int):=by rw [wrapI (by omega) (by omega)];omega
  have hl:i<(Tg.Un.maskL gap n).length:=by rw [Tg.Un.maskL_len];exact hlt
  have hr:(List.replicate n (0:UInt8)).length=(Tg.Un.maskL gap n).length:=by rw [Tg.Un.maskL_len];simp
  have lm:i<((Tg.Un.maskL gap n).take i++(List.replicate n (0:UInt8)).drop i).length:=by simp [Tg.Un.maskL_len];omega
  have s1:lst Tryz.prog 5 (ptr H.n i) (.int .u8 255) H'=some (undef,_):=nh (H:=H') hg lm 255;have p1:=Tg.Un.part_id hr hl;have p2:=Tg.Un.part_same hr hl;rw [Tg.Un.maskL_at,List.getElem_replicate]at p2;rw [Tg.Un.maskL_at]at p1;unfold Tg.Un.mk1 at p1 p2;have go:=fun(fr2:Fr) (H2:LH) (a1:fr2 1=.bool gap) (a5:fr2 5=sl H.n n n) (a10:fr2 10=.int .i64 n) (a11:fr2 11=.int .i64 ((i+1:Nat):Int)) (b1:H2.n=H'.n) (b2:H2.get H.n=some ⟨iB ((Tg.Un.maskL gap n).take (i+1)++(List.replicate n 0).drop (i+1)),5,true⟩) (b3: ∀l,l<H.n->H2.get l=H'.get l)=>ih (i+1) fr2 H2 (by omega) ⟨a1,a5,a10,a11,by omega,by omega,b2,fun l hl=>by rw [b3 l hl,ho l hl]⟩;clear ih;cases gap with
  |false=>
   rw [if_neg (by simp)]at p1;rw [p1]at s1;generalize hB:(Tg.Un.maskL false n).take (i+1)++(List.replicate n (0:UInt8)).drop (i+1)=M' at*;simp [g1,g5,g10,g11,q,s1];refine go _ _ ?_ ?_ ?_ ?_ rfl ?_ (fun l hl=>ah (by omega))
   ·simp [g1]
   ·simp [g5]
   ·simp [g10]
   ·simp [hw]
   ·rw [aw]
  |true=>
   by_cases h4:i<4
   ·have e4:=eq_true (show(i:Int)<4 by omega);rw [if_neg (by omega)]at p1;rw [p1]at s1;generalize hB:(Tg.Un.maskL true n).take (i+1)++(List.replicate n (0:UInt8)).drop (i+1)=M' at*;simp [g1,g5,g10,g11,q,s1,e4];refine go _ _ ?_ ?_ ?_ ?_ rfl ?_ (fun l hl=>ah (by omega))
    ·simp [g1]
    ·simp [g5]
    ·simp [g10]
    ·simp [hw]
    ·rw [aw]
   ·have e4:=eq_false (show¬(i:Int)<4 by omega);by_cases h8:8<=i
    ·have e8:=eq_true (show(8:Int)<=(i:Int) by omega);rw [if_neg (by omega)]at p1;rw [p1]at s1;generalize hB:(Tg.Un.maskL true n).take (i+1)++(List.replicate n (0:UInt8)).drop (i+1)=M' at*;simp [g1,g5,g10,g11,q,s1,e4,e8];refine go _ _ ?_ ?_ ?_ ?_ rfl ?_ (fun l hl=>ah (by omega))
     ·simp [g1]
     ·simp [g5]
     ·simp [g10]
     ·simp [hw]
     ·rw [aw]
    ·have e8:=eq_false (show¬(8:Int)<=(i:Int) by omega);have p3:=p2 (by rw [if_pos ⟨rfl,by omega,by omega⟩]);rw [p3]at hg;simp [g1,g5,g10,g11,q,e4,e8];refine go _ _ ?_ ?_ ?_ ?_ rfl hg (fun l hl=>rfl)
     ·simp [g1]
     ·simp [g5]
     ·simp [g10]
     ·simp [hw]
 ·have q:=eq_false (show¬(i:Int)<(n:Int) by omega);obtain rfl:i=n:=by omega
  rw [List.take_of_length_le (by rw [Tg.Un.maskL_len];exact Nat.le_refl _),List.drop_of_length_le (by simp),List.append_nil]at hg;have c1:=fun(c:Nat)=>jL (c:=c) hg;rw [Tg.Un.maskL_len]at c1;simp [g1,g5,g10,g11,q,c1];exact⟨by omega,fun l hl=>ho l hl⟩
theorem nj (hs:s.length<=1000):LC Tryz.prog EJ 322 [str s,str t] H=some (pv ⟨s,Tg.Un.maskL false s.length,[],t⟩,H):=by
 refine ag rfl Tryz.func322 rfl (Nat.le_of_ble_eq_true rfl) (by decide) (by kernel_rfl) rfl ?_;have h1:=fun H:LH=>oM (H:=H) (n:=s.length) (gap:=false) hs;simp [h1,jI]
theorem nk {h n:List UInt8} (h1:h.length<=100) (h2:n.length<=100):LC Tryz.prog EJ 321 [str h,str n,str t] H=some (pv ⟨h++ [0,0,0,0]++n,Tg.Un.maskL true (h.length+4+n.length),[],t⟩,H):=by
 refine ag rfl Tryz.func321 rfl (Nat.le_of_ble_eq_true rfl) (by decide) (by kernel_rfl) rfl ?_;have h3:=fun H:LH=>oM (H:=H) (n:=(h++ [0,0,0,0]++n).length) (gap:=true) (by simp;omega);have q1:=eq_true (show h.length+4<=9223372036854775807 by omega);have q2:=eq_true (show(h++ [0,0,0,0]++n).length<=9223372036854775807 by simp;omega);have q3:=eq_true (show(h++ [(0:UInt8),0,0,0]).length+n.length<=9223372036854775807 by simp;omega);have q4:=eq_true (show h.length+4+n.length<=9223372036854775807 by omega);have q5:=eq_true (show h.length+(4+n.length)<=9223372036854775807 by omega);have q6:=eq_true (show h.length+(n.length+4)<=9223372036854775807 by omega);have e:(h++ [(0:UInt8),0,0,0]++n).length=h.length+4+n.length:=by simp;omega
 rw [<-e];generalize hm:Tg.Un.maskL true (h++ [(0:UInt8),0,0,0]++n).length=M at*;have h5: ∀H:LH,LC Tryz.prog EJ 328 [.int .i64 (h++ [(0:UInt8),0,0,0]++n).length,.bool true] H=some (str M,H):=h3;simp at h5;simp [h5,q1,q2,q3,q4,q5,q6,jI]
end
end Go.Proofs.YtbeoilidocfofaaGreatDoor
namespace Tg.Un
def med0:Pat:=⟨[70,79,82,77,0,0,0,0,65,73,70,70],[255,255,255,255,0,0,0,0,255,255,255,255],[],[97,117,100,105,111,47,97,105,102,102]⟩
def med1:Pat:=⟨[73,68,51],[255,255,255],[],[97,117,100,105,111,47,109,112,101,103]⟩
def med2:Pat:=⟨[79,103,103,83,0],[255,255,255,255,255],[],[97,112,112,108,105,99,97,116,105,111,110,47,111,103,103]⟩
def med3:Pat:=⟨[77,84,104,100,0,0,0,6],[255,255,255,255,255,255,255,255],[],[97,117,100,105,111,47,109,105,100,105]⟩
def med4:Pat:=⟨[82,73,70,70,0,0,0,0,65,86,73,32],[255,255,255,255,0,0,0,0,255,255,255,255],[],[118,105,100,101,111,47,97,118,105]⟩
def med5:Pat:=⟨[82,73,70,70,0,0,0,0,87,65,86,69],[255,255,255,255,0,0,0,0,255,255,255,255],[],[97,117,100,105,111,47,119,97,118,101]⟩
theorem mediaL_is:mediaL= [med0,med1,med2,med3,med4,med5]:=rfl
end Tg.Un
namespace Go.Proofs.YtbeoilidocfofaaGreatDoor
open Go.Lg Go.Tg
section
variable {H:LH} {s:List UInt8}
theorem Bq {yc:YC} {I:LH->Prop} {D:List UInt8->LH->Prop} {Q:PQ}
  (hround: ∀p Hc,I Hc-> ∃j H1,R Tryz.prog cC (.run none 1 yc.fn [.code yc.assign,.beginRound,.code yc.body] (mH yc.fr (yc.params.zip [pv p])) Hc none (.jump j) H1 none)/\((Tg.Un.hits p s=false/\j=none/\I H1)\/(Tg.Un.hits p s=true/\j=some .ret/\D p.t H1)))
  (hp1:yc.params.length=1) (hpN: ∀d∈yc.params,d<yc.fn.ntmps) (hI:I H) (hq1: ∀H1 v,Tg.Un.typeOf s Tg.Un.mediaL= []->I H1->Q (.ret v) H1 none) (hq2: ∀H1 v,D (Tg.Un.typeOf s Tg.Un.mediaL) H1->Q (.ret v) H1 (some .ret)):
  ∃gc,rF Tryz.prog cC 320 Tryz.f320 gc [tok yc.l]/\PR Tryz.prog cC (some yc) 0 Tryz.f320 [.code gc] (enter [tok yc.l]) H none Q:=by
 refine⟨_,⟨Tryz.func320,rfl,Nat.le_of_ble_eq_true rfl,by decide,by kernel_rfl⟩,?_⟩;rw [Tg.Un.mediaL_is]at hq1 hq2;have b0: ∀H:LH,LC Tryz.prog EJ 321 [str [70,79,82,77],str [65,73,70,70],str [97,117,100,105,111,47,97,105,102,102]] H=some (pv Tg.Un.med0,H):=fun H=>nk (by decide) (by decide);have b1: ∀H:LH,LC Tryz.prog EJ 322 [str [73,68,51],str [97,117,100,105,111,47,109,112,101,103]] H=some (pv Tg.Un.med1,H):=fun H=>nj (by decide);have b2: ∀H:LH,LC Tryz.prog EJ 322 [str [79,103,103,83,0],str [97,112,112,108,105,99,97,116,105,111,110,47,111,103,103]] H=some (pv Tg.Un.med2,H):=fun H=>nj (by decide);have b3: ∀H:LH,LC Tryz.prog EJ 322 [str [77,84,104,100,0,0,0,6],str [97,117,100,105,111,47,109,105,100,105]] H=some (pv Tg.Un.med3,H):=fun H=>nj (by decide);have b4: ∀H:LH,LC Tryz.prog EJ 321 [str [82,73,70,70],str [65,86,73,32],str [118,105,100,101,111,47,97,118,105]] H=some (pv Tg.Un.med4,H):=fun H=>nk (by decide) (by decide);have b5: ∀H:LH,LC Tryz.prog EJ 321 [str [82,73,70,70],str [87,65,86,69],str [97,117,100,105,111,47,119,97,118,101]] H=some (pv Tg.Un.med5,H):=fun H=>nk (by decide) (by decide);simp [b0];obtain⟨j0,H0,r0,c0⟩:=hround Tg.Un.med0 H hI;refine dT (yc:=yc) (j:=j0) (H1:=H0) ?_ rfl ?_ ?_ hpN (by simpa using r0) rfl ?_
 ·first|rfl|(rw [cB];simp)
 ·simp
 ·exact hp1.symm
 rcases c0 with⟨h0,rfl,I0⟩|⟨h0,rfl,D0⟩
 rotate_left
 ·simp;have e:Tg.Un.typeOf s [Tg.Un.med0,Tg.Un.med1,Tg.Un.med2,Tg.Un.med3,Tg.Un.med4,Tg.Un.med5]=Tg.Un.med0.t:=by simp only [Tg.Un.typeOf,h0,Bool.false_eq_true,if_true,if_false]
  exact hq2 _ _ (by rw [e];exact D0)
 simp [b1];obtain⟨j1,H1,r1,c1⟩:=hround Tg.Un.med1 H0 I0;refine dT (yc:=yc) (j:=j1) (H1:=H1) ?_ rfl ?_ ?_ hpN (by simpa using r1) rfl ?_
 ·first|rfl|(rw [cB];simp)
 ·simp
 ·exact hp1.symm
 rcases c1 with⟨h1,rfl,I1⟩|⟨h1,rfl,D1⟩
 rotate_left
 ·simp;have e:Tg.Un.typeOf s [Tg.Un.med0,Tg.Un.med1,Tg.Un.med2,Tg.Un.med3,Tg.Un.med4,Tg.Un.med5]=Tg.Un.med1.t:=by simp only [Tg.Un.typeOf,h0,h1,Bool.false_eq_true,if_true,if_false]
  exact hq2 _ _ (by rw [e];exact D1)
 simp [b2];obtain⟨j2,H2,r2,c2⟩:=hround Tg.Un.med2 H1 I1;refine dT (yc:=yc) (j:=j2) (H1:=H2) ?_ rfl ?_ ?_ hpN (by simpa using r2) rfl ?_
 ·first|rfl|(rw [cB];simp)
 ·simp
 ·exact hp1.symm
 rcases c2 with⟨h2,rfl,I2⟩|⟨h2,rfl,D2⟩
 rotate_left
 ·simp;have e:Tg.Un.typeOf s [Tg.Un.med0,Tg.Un.med1,Tg.Un.med2,Tg.Un.med3,Tg.Un.med4,Tg.Un.med5]=Tg.Un.med2.t:=by simp only [Tg.Un.typeOf,h0,h1,h2,Bool.false_eq_true,if_true,if_false]
  exact hq2 _ _ (by rw [e];exact D2)
 simp [b3];obtain⟨j3,H3,r3,c3⟩:=hround Tg.Un.med3 H2 I2;refine dT (yc:=yc) (j:=j3) (H1:=H3) ?_ rfl ?_ ?_ hpN (by simpa using r3) rfl ?_
 ·first|rfl|(rw [cB];simp)
 ·simp
 ·exact hp1.symm
 rcases c3 with⟨h3,rfl,I3⟩|⟨h3,rfl,D3⟩
 rotate_left
 ·simp;have e:Tg.Un.typeOf s [Tg.Un.med0,Tg.Un.med1,Tg.Un.med2,Tg.Un.med3,Tg.Un.med4,Tg.Un.med5]=Tg.Un.med3.t:=by simp only [Tg.Un.typeOf,h0,h1,h2,h3,Bool.false_eq_true,if_true,if_false]
  exact hq2 _ _ (by rw [e];exact D3)
 simp [b4];obtain⟨j4,H4,r4,c4⟩:=hround Tg.Un.med4 H3 I3;refine dT (yc:=yc) (j:=j4) (H1:=H4) ?_ rfl ?_ ?_ hpN (by simpa using r4) rfl ?_
 ·first|rfl|(rw [cB];simp)
 ·simp
 ·exact hp1.symm
 rcases c4 with⟨h4,rfl,I4⟩|⟨h4,rfl,D4⟩
 rotate_left
 ·simp;have e:Tg.Un.typeOf s [Tg.Un.med0,Tg.Un.med1,Tg.Un.med2,Tg.Un.med3,Tg.Un.med4,Tg.Un.med5]=Tg.Un.med4.t:=by simp only [Tg.Un.typeOf,h0,h1,h2,h3,h4,Bool.false_eq_true,if_true,if_false]
  exact hq2 _ _ (by rw [e];exact D4)
 simp [b5];obtain⟨j5,H5,r5,c5⟩:=hround Tg.Un.med5 H4 I4;refine dT (yc:=yc) (j:=j5) (H1:=H5) ?_ rfl ?_ ?_ hpN (by simpa using r5) rfl ?_
 ·first|rfl|(rw [cB];simp)
 ·simp
 ·exact hp1.symm
 rcases c5 with⟨h5,rfl,I5⟩|⟨h5,rfl,D5⟩
 rotate_left
 ·simp;have e:Tg.Un.typeOf s [Tg.Un.med0,Tg.Un.med1,Tg.Un.med2,Tg.Un.med3,Tg.Un.med4,Tg.Un.med5]=Tg.Un.med5.t:=by simp only [Tg.Un.typeOf,h0,h1,h2,h3,h4,h5,Bool.false_eq_true,if_true,if_false]
  exact hq2 _ _ (by rw [e];exact D5)
 simp;exact hq1 _ _ (by simp only [Tg.Un.typeOf,h0,h1,h2,h3,h4,h5,Bool.false_eq_true,if_false]) I5
theorem uA:LC Tryz.prog EJ 309 [] H=some (.func (.func 320) #[] #[],H):=by
 refine ag rfl Tryz.func309 rfl (Nat.le_of_ble_eq_true rfl) (by decide) (by kernel_rfl) rfl ?_;simp
end
section
variable {H:LH} {s:List UInt8} {l:Nat}
theorem Br {P:Program} {E:PEnv} {Y:Option YC} {rd:Nat} {fn:Func} {k:List Item} {fr:Fr} {H:LH} {p:Option Code} {Q:PQ} {St:Type} (Rl:St->Fr->LH->Prop) (μ:St->Nat) (st:St) (h:Rl st fr H)
  (step: ∀st fr H,Rl st fr H->(∀st' fr' H',μ st'<μ st->Rl st' fr' H'->PR P E Y rd fn k fr' H' p Q)->PR P E Y rd fn k fr H p Q):PR P E Y rd fn k fr H p Q:=by
 have key: ∀m st fr H,μ st<m->Rl st fr H->PR P E Y rd fn k fr H p Q:=by
  intro m;induction m with
  |zero=>intro st fr H hm;omega
  |succ m ih=>intro st fr H hm hR;exact step st fr H hR (fun st' fr' H' hlt hR'=>ih st' fr' H' (by omega) hR')
 exact key (μ st+1) st fr H (Nat.lt_succ_self _) h
theorem KA (hs:s.length<=1000000):R Tryz.prog cC (.call 276 [str s] H (.ret (.bool (Tg.Un.webm s))) H):=by
 have hb:=fun H:LH=>ux (H:=H) (s:=s);refine bz Tryz.func276 rfl (Nat.le_of_ble_eq_true rfl) (by decide) (by kernel_rfl) rfl ?_;unfold Tg.Un.webm;cases h:Tg.Un.pre s Tg.Un.mark with
 |false=>rw [h]at hb;simp [hb]
 |true=>
  rw [h]at hb;obtain⟨x,hx⟩: ∃x,x=Tg.Un.webmAt s 38 4:=⟨_,rfl⟩
  rw [<-hx];simp [hb,-mT];rw [mT];simp only [pV];refine Br (St:=Nat×Nat) (fun st fr' H'=>fr' 0=str s/\fr' 3=.int .i64 st.1/\H'=H/\x=Tg.Un.webmAt s st.2 st.1/\38<=st.1+st.2) (fun st=>38-st.1) (4,38) ⟨by simp,by simp,rfl,hx,by decide⟩ ?_;rintro⟨a,n⟩ fr' H' ⟨g0,g3,rfl,he,hf⟩ ih;simp only at g3 he hf ih;by_cases c1:s.length<=a\/38<=a
  ·have he:x=false:=by
    rw [he];cases n with
    |zero=>rfl
    |succ n=>unfold Tg.Un.webmAt;rw [if_pos c1]
   subst he;by_cases c2:s.length<=a
   ·have q1:=eq_true (show(s.length:Int)<=(a:Int) by omega);simp [g0,g3,q1,c2,-dY]
   ·have q1:=eq_false (show¬(s.length:Int)<=(a:Int) by omega);have q2:=eq_true (show(38:Int)<=(a:Int) by omega);simp [g0,g3,q1,q2,c2,-dY]
  ·obtain⟨n,rfl⟩: ∃m,n=m+1:=⟨n-1,by omega⟩
   unfold Tg.Un.webmAt at he;rw [if_neg c1]at he;have q1:=eq_false (show¬(s.length:Int)<=(a:Int) by omega);have q2:=eq_false (show¬(38:Int)<=(a:Int) by omega);have q3:=eq_true (show(a:Int)<=(s.length:Int) by omega);have q4:=eq_true (show(0:Int)<=(a:Int) by omega);have hp:=Tg.Un.pre_eq (s.drop a) [66,130];have w1:IntKind.i64.wrap ((a:Int)+1)=((a+1:Nat):Int):=by rw [wrapI (by omega) (by omega)];omega
   cases hpre:Tg.Un.pre (s.drop a) [66,130]with
   |false=>
    rw [hpre]at hp he;rw [if_neg (by simp)]at he;simp [g0,g3,q1,q2,q3,q4,hp,-dY];rw [dY];simp only [gotoIn,findLabel,beq_self_eq_true,if_true,mU,pV,pU];refine ih (a+1,n) _ _ (by simp only;omega) ⟨?_,?_,rfl,he,by simp only;omega⟩
    ·simp [g0]
    ·simp [w1]
   |true=>
    rw [hpre]at hp he;rw [if_pos rfl]at he;have w2:IntKind.i64.wrap ((a:Int)+2)=((a+2:Nat):Int):=by rw [wrapI (by omega) (by omega)];omega
    by_cases c3:s.length<=a+2
    ·rw [if_pos c3]at he;have q5:=eq_true (show(s.length:Int)<=((a+2:Nat):Int) by omega);generalize ((a+2:Nat):Int)=A2 at*;simp [g0,g3,q1,q2,q3,q4,hp,w2,q5,he,-dY]
    ·rw [if_neg c3]at he;have hlt:a+2<s.length:=by omega
     have hat:at_ s ((a+2:Nat):Int)=s[a+2]:=dw hlt;have hgd:s.getD (a+2) 0=s[a+2]:=by rw [List.getD_eq_getElem?_getD,List.getElem?_eq_getElem hlt];rfl
     rw [hgd]at he;have hW:=fun H:LH=>Bd (H:=H) (c:=s[a+2])
     have hw8:Tg.Un.width s[a+2]<=8:=by
      unfold Tg.Un.width
      repeat (first|omega|split)
     generalize s[a+2]=c at*;generalize Tg.Un.width c=w at*;have q5:=eq_false (show¬(s.length:Int)<=((a+2:Nat):Int) by omega);have q6:=eq_true (show((a+2:Nat):Int)<(s.length:Int) by omega);have q7:=eq_true (show(0:Int)<=((a+2:Nat):Int) by omega);have w3:IntKind.i64.wrap (((a+2:Nat):Int)+(w:Int))=((a+2+w:Nat):Int):=by rw [wrapI (by omega) (by omega)];omega
     have w4:IntKind.i64.wrap ((s.length:Int)-4)=(s.length:Int)-4:=wrapI (by omega) (by omega);by_cases c4:s.length<=a+2+w+4
     ·rw [if_pos c4]at he;have q8:=eq_true (show(s.length:Int)-4<=((a+2+w:Nat):Int) by omega);generalize ((a+2+w:Nat):Int)=A3 at*;generalize ((a+2:Nat):Int)=A2 at*;simp [g0,g3,q1,q2,q3,q4,hp,w2,q5,q6,q7,hat,hW,w3,w4,q8,he,-dY]
     ·rw [if_neg c4]at he;have q8:=eq_false (show¬(s.length:Int)-4<=((a+2+w:Nat):Int) by omega);have q9:=eq_true (show((a+2+w:Nat):Int)<=(s.length:Int) by omega);have q10:=eq_true (show(0:Int)<=((a+2+w:Nat):Int) by omega);have hd:s.drop (((a+2+w:Nat):Int)).toNat=s.drop (a+2+w):=by rw [Int.toNat_natCast]
      have hP:=fun H:LH=>Kt (H:=H) (s:=s.drop (a+2+w)) (by rw [List.length_drop];omega);have w5:IntKind.i64.wrap (((a+2+w:Nat):Int)+1)=((a+2+w+1:Nat):Int):=by rw [wrapI (by omega) (by omega)];omega
      cases hpd:Tg.Un.padded (s.drop (a+2+w))with
      |true=>
       rw [hpd]at hP he;rw [if_pos rfl]at he;generalize ((a+2+w:Nat):Int)=A3 at*;generalize ((a+2:Nat):Int)=A2 at*;simp [g0,g3,q1,q2,q3,q4,hp,w2,q5,q6,q7,hat,hW,w3,w4,q8,q9,q10,hd,hP,he,-dY]
      |false=>
       rw [hpd]at hP he;rw [if_neg (by simp)]at he;generalize ((a+2+w:Nat):Int)=A3 at*;generalize ((a+2:Nat):Int)=A2 at*;simp [g0,g3,q1,q2,q3,q4,hp,w2,q5,q6,q7,hat,hW,w3,w4,q8,q9,q10,hd,hP,-dY];rw [dY];simp only [gotoIn,findLabel,beq_self_eq_true,if_true,mU,pV,pU];refine ih (a+2+w+1,n) _ _ (by simp only;omega) ⟨?_,?_,rfl,he,by simp only;omega⟩
       ·simp [g0]
       ·simp [w5]
end
end Go.Proofs.YtbeoilidocfofaaGreatDoor
namespace Tg.Un
theorem orS_eq: ∀l:List (List UInt8),orS l=or_ l
 | []=>rfl
 |s::l=>by unfold orS or_;rw [orS_eq l]
end Tg.Un
namespace Go.Proofs.YtbeoilidocfofaaGreatDoor
open Go.Lg Go.Tg
section
variable {H:LH} {s:List UInt8}
theorem Fe (hs:s.length<=1000000):R Tryz.prog cC (.call 293 [str s] H (.ret (str (Tg.Un.typeOf s Tg.Un.mediaL))) H):=by
 have hp:=fun H:LH=>uA (H:=H);refine bz Tryz.func293 rfl (Nat.le_of_ble_eq_true rfl) (by decide) (by kernel_rfl) rfl ?_;simp [hp];refine xC (g:=320) (gfn:=Tryz.f320) (caps:=#[]) ?_ ?_
 ·simp
 refine Bq (s:=s) (I:=fun Hc=>Hc.get H.n=some ⟨[str s],9,true⟩/\Hc.get (H.n+1)=some ⟨[str []],9,true⟩/\H.n+2<=Hc.n/\ ∀k,k<H.n->Hc.get k=H.get k) (D:=fun t Hc=>Hc.get (H.n+1)=some ⟨[str t],9,true⟩/\H.n<=Hc.n/\ ∀k,k<H.n->Hc.get k=H.get k) ?_ rfl ?_ ?_ ?_ ?_
 ·rintro p Hc ⟨i1,i2,i3,i4⟩;have hM:=fun H:LH=>jJ (H:=H) (s:=s) (p:=p) (by omega);have d1:(H.n=Hc.n)=False:=eq_false (by omega);have d2:(H.n+1=Hc.n)=False:=eq_false (by omega);refine AJ ?_;simp [mH];refine AI ?_;cases hh:Tg.Un.hits p s with
  |false=>
   rw [hh]at hM;simp [i1,i2,d1,d2,hM];exact⟨by omega,fun k hk=>by rw [aa (by omega)];exact i4 k hk⟩
  |true=>
   rw [hh]at hM;simp [i1,i2,d1,d2,hM];exact⟨by omega,fun k hk=>by rw [ah (by omega),aa (by omega)];exact i4 k hk⟩
 ·intro d hd;simp at hd;subst hd;exact of_decide_eq_true rfl
 ·refine⟨?_,?_,?_,fun k hk=>?_⟩
  ·show((H.new _).new _).get H.n=_;rw [aa (by simp),ak]
  ·show((H.new _).new _).get (H.n+1)=_;rw [show H.n+1=(H.new ⟨[str s],9,true⟩).n from rfl,ak]
  ·show H.n+2<=((H.new _).new _).n+1;simp only [aL];omega
  ·show((H.new _).new _).get k=_;rw [aa (by simp only [aL];omega),aa (by omega)]
 ·rintro H1 v e ⟨i1,i2,i3,i4⟩;refine⟨⟨v,rfl⟩,?_⟩;rw [e];simp [i2];exact⟨by omega,fun k hk=>i4 k hk⟩
 ·rintro H1 v ⟨i1,i2,i3⟩;refine⟨⟨v,rfl⟩,?_⟩;simp [i1];exact⟨i2,fun k hk=>i3 k hk⟩
theorem Ff (hs:s.length<=1000000):R Tryz.prog cC (.call 273 [str s] H (.ret (str (Tg.Un.typeOf s Tg.Un.mediaL))) H):=by
 have h1:=Fe (H:=H) hs;refine bz Tryz.func273 rfl (Nat.le_of_ble_eq_true rfl) (by decide) (by kernel_rfl) rfl ?_;simp;refine ai (g:=293) (first:=#[]) (caps:=#[]) (H1:=H) rfl rfl rfl (by simp) (by simpa using h1) rfl ?_;simp
theorem Q_ {n:Nat} {ps:List (Nat×Value)} (h1:n=ps.length) (h2:n<=65536) (h3:cR ps 0=true):aG Tryz.prog 116 n ps H=some (sl H.n n n,H.new ⟨ps.map Prod.snd,9,true⟩):=fK (z:=str []) Tryz.underlying116 (by kernel_rfl) (by kernel_rfl) rfl rfl h1 h2 h3
theorem OB {xs:List (List UInt8)} {n:Nat} (hn:n=xs.length) (hl:n<=1000):LC Tryz.prog EJ 272 [sl H.n n n] (H.new ⟨xs.map str,9,true⟩)=some (str (Tg.Un.orS xs),H.new ⟨xs.map str,9,true⟩):=by
 subst hn;rw [Tg.Un.orS_eq];exact Ox (dW.of (k:=H.n) (c:=xs.length) (rest:= []) (by rw [ak,List.append_nil]) (Nat.lt_succ_self _)) (by omega)
theorem KB (hs:s.length<=1000000):R Tryz.prog cC (.call 245 [str s] H (.ret (str (Tg.Un.film s))) H):=by
 have h1:=Ff (H:=H) hs;have h2:=OA (H:=H) hs;have h3:=KA (H:=H) hs;have h4:=fun H:LH=>Kz (H:=H) (s:=s) (by omega);have h5:=fun(H:LH) (s:List UInt8) (b:Bool)=>Bc (H:=H) (s:=s) (b:=b);have h6:=OB (H:=H) (n:=4) (xs:= [Tg.Un.typeOf s Tg.Un.mediaL,if Tg.Un.mp4 s=true then [118,105,100,101,111,47,109,112,52]else [],if Tg.Un.webm s=true then [118,105,100,101,111,47,119,101,98,109]else [],if Tg.Un.mp3 s=true then [97,117,100,105,111,47,109,112,101,103]else []]) rfl (by decide);have e:Tg.Un.orS [Tg.Un.typeOf s Tg.Un.mediaL,if Tg.Un.mp4 s=true then [118,105,100,101,111,47,109,112,52]else [],if Tg.Un.webm s=true then [118,105,100,101,111,47,119,101,98,109]else [],if Tg.Un.mp3 s=true then [97,117,100,105,111,47,109,112,101,103]else []]=Tg.Un.film s:=rfl;rw [e]at h6;clear e;generalize Tg.Un.film s=res at*;generalize hx1:(if Tg.Un.mp4 s=true then [118,105,100,101,111,47,109,112,52]else([]:List UInt8))=x1 at*;generalize hx2:(if Tg.Un.webm s=true then [118,105,100,101,111,47,119,101,98,109]else([]:List UInt8))=x2 at*;generalize hx3:(if Tg.Un.mp3 s=true then [97,117,100,105,111,47,109,112,101,103]else([]:List UInt8))=x3 at*;simp only [List.map_cons,List.map_nil]at h6;refine bz Tryz.func245 rfl (Nat.le_of_ble_eq_true rfl) (by decide) (by kernel_rfl) rfl ?_;simp;refine ai (g:=273) (first:=#[]) (caps:=#[]) (H1:=H) rfl rfl rfl (by simp) (by simpa using h1) rfl ?_;simp;refine ai (g:=275) (first:=#[]) (caps:=#[]) (H1:=H) rfl rfl rfl (by simp) (by simpa using h2) rfl ?_;simp [h5,hx1];refine ai (g:=276) (first:=#[]) (caps:=#[]) (H1:=H) rfl rfl rfl (by simp) (by simpa using h3) rfl ?_;simp [h5,hx2,h4,hx3,Q_,cR,h6]
theorem Fg (hs:s.length<=1000000):R Tryz.prog cC (.call 203 [str s] H (.ret (str (Tg.Un.film s))) H):=by
 have h1:=KB (H:=H) hs;refine bz Tryz.func203 rfl (Nat.le_of_ble_eq_true rfl) (by decide) (by kernel_rfl) rfl ?_;simp;refine ai (g:=245) (first:=#[]) (caps:=#[]) (H1:=H) rfl rfl rfl (by simp) (by simpa using h1) rfl ?_;simp
end
section
variable {H:LH} {s t l:List UInt8}
end
end Go.Proofs.YtbeoilidocfofaaGreatDoor
namespace Tg.Sn
def plainT:List UInt8:= [116,101,120,116,47,112,108,97,105,110]
def setT:List UInt8:= [116,101,120,116,47,112,108,97,105,110,59,32,99,104,97,114,115,101,116,61]
def setsL:List (List UInt8):= [[73,83,79,45,56,56,53,57,45,49],[105,115,111,45,56,56,53,57,45,49],[85,84,70,45,56]]
def bug (s:List UInt8):Bool:=decide (s=plainT)||setsL.any fun t=>decide (s=setT++t)
end Tg.Sn
namespace Go.Proofs.YtbeoilidocfofaaGreatDoor
open Go.Lg Go.Tg
section
variable {H:LH} {s:List UInt8}
theorem KC:LC Tryz.prog EJ 55 [str s] H=some (.bool (Tg.Sn.bug s),H):=by
 refine ag rfl Tryz.func55 rfl (Nat.le_of_ble_eq_true rfl) (by decide) (by kernel_rfl) rfl ?_;unfold Tg.Sn.bug;by_cases h0:s= [116,101,120,116,47,112,108,97,105,110]
 ·have e:decide (s=Tg.Sn.plainT)=true:=decide_eq_true h0;rw [e,Bool.true_or];simp [h0]
 ·have e:decide (s=Tg.Sn.plainT)=false:=decide_eq_false h0;rw [e,Bool.false_or];obtain⟨x,hx⟩: ∃x,x=Tg.Sn.setsL.any fun t=>decide (s=Tg.Sn.setT++t):=⟨_,rfl⟩
  rw [<-hx];have hr:dW (H.new ⟨Tg.Sn.setsL.map str,9,true⟩) (sl H.n 3 3) Tg.Sn.setsL:=dW.of (k:=H.n) (c:=3) (rest:= []) (by rw [ak,List.append_nil]) (Nat.lt_succ_self _);have hl: ∀x∈Tg.Sn.setsL,x.length<=100:=by decide
  have hm:Tg.Sn.setsL.map str= [str [73,83,79,45,56,56,53,57,45,49],str [105,115,111,45,56,56,53,57,45,49],str [85,84,70,45,56]]:=rfl;rw [hm]at hr;simp [h0,Q_,cR];refine aK (fun(i:Nat) fr' H'=>fr' 0=str s/\fr' 7=sl H.n 3 3/\fr' 8=.int .i64 3/\fr' 9=.int .i64 i/\i<=3/\x=((Tg.Sn.setsL.drop i).any fun t=>decide (s=Tg.Sn.setT++t))/\H'=H.new ⟨[str [73,83,79,45,56,56,53,57,45,49],str [105,115,111,45,56,56,53,57,45,49],str [85,84,70,45,56]],9,true⟩) (fun i=>3-i) 0 ⟨by simp,by simp,by simp,by simp,Nat.zero_le _,hx,rfl⟩ ?_;rintro i fr' H' ⟨g0,g7,g8,g9,hi,hc,rfl⟩ ih;by_cases hlt:i<3
  ·have q:=eq_true (show(i:Int)<3 by omega);have hw:IntKind.i64.wrap ((i:Int)+1)=((i+1:Nat):Int):=by rw [wrapI (by omega) (by omega)];omega
   have hlt2:i<Tg.Sn.setsL.length:=hlt;obtain⟨k2,o,e1,e2,e3⟩:=hr.at hlt2;have e4:=e3 _ rfl;have hal:=hl Tg.Sn.setsL[i] (List.getElem_mem hlt2);rw [List.drop_eq_getElem_cons hlt2,List.any_cons]at hc;generalize Tg.Sn.setsL[i]=a at*;have ha:Tg.Sn.setT++a= [116,101,120,116,47,112,108,97,105,110,59,32,99,104,97,114,115,101,116,61]++a:=rfl;rw [ha]at hc;have q1:=eq_true (show 20+a.length<=9223372036854775807 by omega);by_cases c1:s= [116,101,120,116,47,112,108,97,105,110,59,32,99,104,97,114,115,101,116,61]++a
   ·have hc:x=true:=by rw [hc,decide_eq_true c1];rfl
    have c2:=eq_true c1;simp at c2;clear ih;subst hc;simp [g0,g7,g8,g9,q,e1,e4,q1,c2]
   ·have hc:x=(Tg.Sn.setsL.drop (i+1)).any fun t=>decide (s=Tg.Sn.setT++t):=by rw [hc,decide_eq_false c1];rfl
    have c2:=eq_false c1;simp at c2;simp [g0,g7,g8,g9,q,e1,e4,q1,c2];refine ih (i+1) _ _ (by omega) ⟨?_,?_,?_,?_,by omega,hc,rfl⟩
    all_goals simp [g0,g7,g8,hw]
  ·have q:=eq_false (show¬(i:Int)<3 by omega);have hc:x=false:=by rw [hc,List.drop_of_length_le (by show 3<=i;omega)];rfl
   subst hc;simp [g0,g7,g8,g9,q]
theorem uB:LC Tryz.prog EJ 151 [str s] H=some (str (Tg.Un.typeOf (s.take 1445) Tg.Un.imageL),H):=by
 refine ag rfl Tryz.func151 rfl (Nat.le_of_ble_eq_true rfl) (by decide) (by kernel_rfl) rfl ?_;have h1:=fun H:LH=>qe (H:=H) (s:=s);have h2:=fun H:LH=>Bk (H:=H) (s:=s.take 1445) (by rw [List.length_take];omega);generalize s.take 1445=u at*;simp [h1,h2]
theorem xO:LC Tryz.prog EJ 104 [str s] H=some (str (Tg.Un.typeOf (s.take 1445) Tg.Un.imageL),H):=by
 refine ag rfl Tryz.func104 rfl (Nat.le_of_ble_eq_true rfl) (by decide) (by kernel_rfl) rfl ?_;have h1:=fun H:LH=>uB (H:=H) (s:=s);simp [h1]
end
abbrev mv (a b:List UInt8):Value:=.agg #[str a,str b,.slice none 0 0]
abbrev sv (a b:List UInt8) (h n g:Bool):Value:=.agg #[str a,str b,.slice none 0 0,.bool h,.bool n,.bool g]
section
variable {H:LH} {s t:List UInt8}
theorem Bt {v:Value} {xs:List (List UInt8)} {x:List UInt8} (hr:dW H v xs) (hl:xs.length<=1000):LC Tryz.prog EJ 87 [v,str x] H=some (.bool (decide (x∈xs)),H):=by
 have hix: ∃i:Int,LC Tryz.prog EJ 119 [v,str x] H=some (.int .i64 i,H)/\(0<=i↔x∈xs):=by
  obtain⟨i,hi⟩: ∃i:Int,i=Tg.Un.idx (fun y=>decide (x=y)) xs 0:=⟨_,rfl⟩
  refine⟨i,?_,?_⟩
  ·refine ag rfl Tryz.func119 rfl (Nat.le_of_ble_eq_true rfl) (by decide) (by kernel_rfl) rfl ?_;simp [hr.len];refine aK (fun(j:Nat) fr' H'=>fr' 0=v/\fr' 1=str x/\fr' 7=.int .i64 xs.length/\fr' 8=.int .i64 j/\j<=xs.length/\i=Tg.Un.idx (fun y=>decide (x=y)) (xs.drop j) j/\H'=H) (fun j=>xs.length-j) 0 ⟨by simp,by simp,by simp,by simp,Nat.zero_le _,hi,rfl⟩ ?_;rintro j fr' H' ⟨h0,h1,h7,h8,hj,hc,rfl⟩ ih;by_cases hlt:j<xs.length
   ·have q:=eq_true (show(j:Int)<(xs.length:Int) by omega);have hw:IntKind.i64.wrap ((j:Int)+1)=((j+1:Nat):Int):=by rw [wrapI (by omega) (by omega)];omega
    obtain⟨k2,o,g1,g2,g3⟩:=hr.at hlt;have g4:=g3 H' rfl;rw [List.drop_eq_getElem_cons hlt]at hc;generalize xs[j]=a at*;unfold Tg.Un.idx at hc;by_cases hf:x=a
    ·rw [if_pos (decide_eq_true hf)]at hc;subst hc;simp [h0,h1,h7,h8,q,g1,g4,hf]
    ·rw [if_neg (by simp [hf])]at hc;simp [h0,h1,h7,h8,q,g1,g4,hf];refine ih (j+1) _ _ (by omega) ⟨?_,?_,?_,?_,by omega,hc,rfl⟩
     all_goals simp [h0,h1,h7,hw]
   ·have q:=eq_false (show¬(j:Int)<(xs.length:Int) by omega);rw [List.drop_of_length_le (by omega)]at hc;have hc:i= -1:=hc;subst hc;simp [h0,h1,h7,h8,q]
  ·have:=Tg.Un.idx_any (fun y=>decide (x=y)) xs 0;rw [<-hi]at this;constructor
   ·intro h;rw [decide_eq_true h]at this;obtain⟨y,hy,e⟩:=List.any_eq_true.1 this.symm;rw [of_decide_eq_true e];exact hy
   ·intro h;have h2:xs.any (fun y=>decide (x=y))=true:=List.any_eq_true.2 ⟨x,h,by simp⟩;rw [h2]at this;exact of_decide_eq_true this
 obtain⟨i,h1,h2⟩:=hix;refine ag rfl Tryz.func87 rfl (Nat.le_of_ble_eq_true rfl) (by decide) (by kernel_rfl) rfl ?_;by_cases h:x∈xs
 ·have q:=eq_true (h2.2 h);simp [h1,q,h]
 ·have q:=eq_false (fun e=>h (h2.1 e));simp [h1,q,h]
def KD:List (List UInt8):= [[117,110,107,110,111,119,110,47,117,110,107,110,111,119,110],[97,112,112,108,105,99,97,116,105,111,110,47,117,110,107,110,111,119,110],[42,47,42]]
def opens (s t:List UInt8) (h:Bool):Bool:=!h||decide (s++47::t∈KD)
end
section
variable {H:LH} {u:List UInt8}
end
def cJ (H:LH):Prop:=0<H.ng/\Lib.TabIs Tryz.prog H.base "strings.asciiSpace" .u8 Lib.asciiSpaceTab
theorem uC {P:Program} {H:LH} {ι:Ren} {w:World} (hrel:Rel P H ι w) (h:cJ H):Lib.TabIs Tryz.prog w "strings.asciiSpace" .u8 Lib.asciiSpaceTab:=by
 have h2:=h.2;unfold Lib.TabIs World.var? at h2⊢;rw [show Tryz.prog.globalNamed "strings.asciiSpace" =some 0 by kernel_rfl]at h2⊢;simp only [Option.bind_some]at h2⊢;rw [kH hrel h.1];exact h2
open Classical in
noncomputable def ct:Lg.Spec:=fun args H=>match args with
 | [.string s]=>if s.size<4294967281/\(∀(j:Nat) b,s.data.toList[j]?=some b->b.toNat<128)/\cJ H/\(Lib.fields s.data.toList).length<=maxLen then
   some (sl H.n (Lib.fields s.data.toList).length (Lib.fields s.data.toList).length,H.new ⟨(Lib.fields s.data.toList).map (fun l=>.string ⟨l.toArray⟩),9,true⟩)
  else none
 |_=>none
theorem xP:cr Tryz.prog 88 ct:=by
 intro args H v H' h;refine .inl ⟨⟨_,Tryz.func88,rfl,by decide⟩,?_⟩;unfold ct at h;split at h
 ·rename_i s;split at h
  ·rename_i hc;obtain⟨h1,h2,h3,h4⟩:=hc;simp only [Option.some.injEq,Prod.mk.injEq]at h;obtain⟨rfl,rfl⟩:=h
   exact iJ (AP rfl) (fun x hx=>by
    obtain⟨l,_,rfl⟩:=List.mem_map.1 hx;rfl) (by kernel_rfl) (by simp) h4 (fun ι w hrel=>Tryz.strings_Fields s w h1 h2 (uC hrel h3))
  ·cases h
 ·cases h
end Go.Proofs.YtbeoilidocfofaaGreatDoor
namespace Tg.Sn
open Tg.Un
def KE:List (List UInt8):= [[239,187,191],[254,255],[255,254]]
def Bu (s:List UInt8):List (List UInt8)->Int
 | []=>0
 |p::l=>if pre s p=true then p.length else Bu s l
def mark (s:List UInt8):Int:=Bu s KE
end Tg.Sn
namespace Go.Proofs.YtbeoilidocfofaaGreatDoor
open Go.Lg Go.Tg
section
variable {H:LH} {s t:List UInt8}
end
section
variable {H:LH} {v w:Value}
end
end Go.Proofs.YtbeoilidocfofaaGreatDoor
namespace Tg.Un
end Tg.Un
namespace Go.Proofs.YtbeoilidocfofaaGreatDoor
open Go.Lg Go.Tg
section
variable {H:LH} {s:List UInt8}
end
end Go.Proofs.YtbeoilidocfofaaGreatDoor
namespace Go.Lg
open Go.Tg Go.RowKit
structure Kp (p:Nat) (v:Value) (H:LH) (v':Value) (H':LH):Prop where
 n:H.n<=H'.n
 keep: ∀k,k<H.n->k≠p->ay v k->H'.get k=H.get k
 off: ∀k,k<H.n->k≠p->ay v k->ay v' k
 base:H'.base=H.base
 ng:H'.ng=H.ng
section
variable {p:Nat} {v v' v1:Value} {H H' H1:LH} {B:LB}
theorem Kp.refl:Kp p v H v H:=⟨Nat.le_refl _,fun _ _ _ _=>rfl,fun _ _ _ h=>h,rfl,rfl⟩
theorem Kp.trans (h:Kp p v H v1 H1) (k:Kp p v1 H1 v' H'):Kp p v H v' H':=
 ⟨Nat.le_trans h.n k.n,fun l hl hp ho=>(k.keep l (Nat.lt_of_lt_of_le hl h.n) hp (h.off l hl hp ho)).trans (h.keep l hl hp ho),
  fun l hl hp ho=>k.off l (Nat.lt_of_lt_of_le hl h.n) hp (h.off l hl hp ho),k.base.trans h.base,k.ng.trans h.ng⟩
theorem Kp.set (ho: ∀k,ay v k->ay v' k):Kp p v H v' (H.set p B):=⟨Nat.le_refl _,fun _ _ hp _=>ah hp,fun k _ _ h=>ho k h,rfl,rfl⟩
theorem Kp.new:Kp p v H v (H.new B):=⟨Nat.le_succ _,fun _ hl _ _=>aa (by omega),fun _ _ _ h=>h,rfl,rfl⟩
theorem Kp.le (h:Kp p v H1 v' H') (hn:H.n<=H1.n) (hp:H.n<=p) (hv: ∀k,k<H.n->ay v k) (hg: ∀k,k<H.n->H1.get k=H.get k):H.le H':=
 ⟨Nat.le_trans hn h.n,fun l hl=>(h.keep l (by omega) (by omega) (hv l hl)).trans (hg l hl)⟩
end
end Go.Lg
namespace Go.Proofs.YtbeoilidocfofaaGreatDoor
open Go.Lg Go.Tg
structure Bld (N:Nat) (H:LH) (b:Nat) (l:List UInt8) (v:Value):Prop where
 get: ∃p,H.get b=some ⟨[p,v],180,true⟩/\(p=.pointer none\/p=ptr b 0)
 row:bA N H 5 1 v l.length (l.map bv)
 full:Full v
 off:ay v b
 lt:b<H.n
 N:N<=H.n
 nil:l= []->v=.slice none 0 0
section
variable {H:LH} {N b:Nat} {l s:List UInt8} {v:Value} {c:UInt8}
theorem KG (h:Bld N H b l v):LC Tryz.prog EJ 226 [ptr b 0] H=some (.tuple #[],H.set b ⟨[ptr b 0,v],180,true⟩)\/(H.get b=some ⟨[ptr b 0,v],180,true⟩/\LC Tryz.prog EJ 226 [ptr b 0] H=some (.tuple #[],H)):=by
 obtain⟨p,hg,hp⟩:=h.get;rcases hp with rfl|rfl
 ·left;refine dj (s:=dI) rfl ?_;unfold dI;simp only [hg];rw [if_pos trivial]
 ·right;refine⟨hg,dj (s:=dI) rfl ?_⟩;unfold dI;simp only [hg];rw [if_pos trivial]
theorem vW (h:Bld N H b l v): ∃H1,LC Tryz.prog EJ 226 [ptr b 0] H=some (.tuple #[],H1)/\H1.get b=some ⟨[ptr b 0,v],180,true⟩/\H1.n=H.n/\(∀k,k≠b->H1.get k=H.get k)/\H1.base=H.base/\H1.ng=H.ng:=by
 rcases KG h with e|⟨hg,e⟩
 ·exact⟨_,e,by simp,by simp,fun k hk=>ah hk,rfl,rfl⟩
 ·exact⟨_,e,hg,rfl,fun _ _=>rfl,rfl,rfl⟩
theorem ic {H1:LH} {v:Value} {n:Nat} {xs:List Value} (h:bA N H 5 1 v n xs) (ho:ay v b) (hn:H1.n=H.n) (hk: ∀k,k≠b->H1.get k=H.get k):bA N H1 5 1 v n xs:=by
 refine⟨h.1,?_⟩;rcases h.2 with h2|⟨k,c,rest,rfl,h1,h2,h3,h4,h5⟩
 ·exact .inl h2
 ·refine .inr ⟨k,c,rest,rfl,h1,by omega,?_,h4,h5⟩;rw [hk k (fun e=>ho n c (by rw [e]))];exact h3
theorem sC (l:List UInt8):(l.map bv).all aC=true:=by simp [bv]
theorem oN {H3:LH} {v' u:Value} {l':List UInt8} (h:Bld N H b l v) (h3:Bld N H3 b l' v') (hk:Kp b v H v' H3): ∃H4,trunc H (u,H3)=(u,H4)/\Bld N H4 b l' v'/\Kp b v H v' H4:=by
 rcases cm u H H3 with e|⟨e,_,hle⟩
 ·exact⟨H3,e,h3,hk⟩
 ·refine⟨H,e,?_⟩;obtain⟨p,hg,hp⟩:=h.get;obtain⟨p',hg',hp'⟩:=h3.get;rw [hle.2 b h.lt,hg]at hg';injection hg' with hg';injection hg' with hg';simp only [List.cons.injEq,and_true]at hg';obtain⟨rfl,rfl⟩:=hg';refine⟨⟨⟨p,hg,hp⟩,⟨h3.row.1,?_⟩,h.full,h.off,h.lt,h.N,h3.nil⟩,Kp.refl⟩;rcases h3.row.2 with h2|⟨k,c,rest,rfl,g1,g2,g3,g4,g5⟩
  ·exact .inl h2
  ·have hkn:k<H.n:=by
    rcases h.row.2 with⟨h5,_⟩|⟨k',c',rest',h5,_,h6,_⟩
    ·cases h5
    ·injection h5 with h5;injection h5 with h5;injection h5 with h5;omega
   exact .inr ⟨k,c,rest,rfl,g1,hkn,by rw [<-hle.2 k hkn];exact g3,g4,g5⟩
theorem qf (h:Bld N H b l v) (hlen:l.length+s.length<=aH):
  ∃v' H',LC Tryz.prog EJ 175 [ptr b 0,str s] H=some (.tuple #[.int .i64 s.length,.nilIface],H')/\Bld N H' b (l++s) v'/\Kp b v H v' H':=by
 obtain⟨H1,hc,hg1,hn1,hk1,hb1,hng1⟩:=vW h;have hrow1:=ic h.row h.off hn1 hk1;obtain⟨v',H2,ha,hr2,hkept,hf⟩:=hrow1.app (t:=49) (new:=s.map bv) (m:=s.length) Tryz.underlying49 (by kernel_rfl) (sC s) (by simp) hlen (by rw [hn1];exact h.N) (.inr h.full);have hblt:b<H1.n:=by rw [hn1];exact h.lt
 have hg2:H2.get b=some ⟨[ptr b 0,v],180,true⟩:=by rw [hkept.get b hblt h.off];exact hg1
 have hap:aI Tryz.prog .append [49,9] [v,str s] H1=some (v',H2):=by
  rw [kD (e:=5) (by decide) Tryz.underlying49 Tryz.underlying9 (by kernel_rfl) (by kernel_rfl) (by kernel_rfl)];exact ha
 have hcell:aC v'=true:=hr2.cell;have hoff':=hkept.off b hblt h.off
 obtain⟨r,hr,h1,h2⟩:=aD (P:=Tryz.prog) (E:=EJ) (f:=175) rfl Tryz.func175 rfl (Nat.le_of_ble_eq_true rfl) (by decide) (by kernel_rfl) (H:=H) (args:= [ptr b 0,str s]) (Q:=fun r=>r.1=.tuple #[.int .i64 s.length,.nilIface]/\r.2=H2.set b ⟨[ptr b 0,v'],180,true⟩) (by
  simp [hc,hg1,hap,hg2,hcell])
 obtain⟨u,H3⟩:=r;simp only at h1 h2;subst h1 h2
 have hset:Bld N (H2.set b ⟨[ptr b 0,v'],180,true⟩) b (l++s) v':=by
  refine⟨⟨_,aw,.inr rfl⟩,?_,hf h.full,hoff',Nat.lt_of_lt_of_le hblt hkept.le,?_,?_⟩
  ·have:=ic (b:=b) (H1:=H2.set b ⟨[ptr b 0,v'],180,true⟩) hr2 hoff' rfl (fun k hk=>ah hk);rw [List.length_append,List.map_append];exact this
  ·exact Nat.le_trans h.N (by rw [<-hn1];exact hkept.le)
  ·intro e;obtain⟨e1,e2⟩:=List.append_eq_nil_iff.1 e;have hv:=h.nil e1;subst hv e2;rw [List.map_nil,List.length_nil,oD (s:=1) Tryz.underlying49 (by kernel_rfl)]at ha;simp only [Option.some.injEq,Prod.mk.injEq]at ha;exact ha.1.symm
 have hkp:Kp b v H v' (H2.set b ⟨[ptr b 0,v'],180,true⟩):=by
  refine⟨by rw [<-hn1];exact hkept.le,fun k hk hkb ho=>?_,fun k hk hkb ho=>hkept.off k (by omega) ho,by simp [hkept.base,hb1],by simp [hkept.ng,hng1]⟩;rw [ah hkb,hkept.get k (by omega) ho,hk1 k hkb]
 obtain⟨H4,e1,e2,e3⟩:=oN h hset hkp;exact⟨_,H4,by rw [hr,e1],e2,e3⟩
theorem Bv (h:Bld N H b l v) (hlen:l.length+1<=aH):
  ∃v' H',LC Tryz.prog EJ 227 [ptr b 0,.int .u8 c.toNat] H=some (.nilIface,H')/\Bld N H' b (l++ [c]) v'/\Kp b v H v' H':=by
 obtain⟨H1,hc,hg1,hn1,hk1,hb1,hng1⟩:=vW h;have hrow1:=ic h.row h.off hn1 hk1;have hblt:b<H1.n:=by rw [hn1];exact h.lt
 have hrow2:bA N (H1.new ⟨[.int .u8 c.toNat],5,true⟩) 5 1 v l.length (l.map bv):=hrow1.keep (Nat.le_succ _) (fun k _ _ hk=>aa (by omega));obtain⟨v',H2,ha,hr2,hkept,hf⟩:=hrow2.app (t:=49) (new:= [c].map bv) (m:=1) Tryz.underlying49 (by kernel_rfl) (sC [c]) (by simp) hlen (by rw [aL,hn1];have:=h.N;omega) (.inr h.full);have hg2:H2.get b=some ⟨[ptr b 0,v],180,true⟩:=by rw [hkept.get b (by rw [aL];omega) h.off,aa (by omega)];exact hg1
 simp only [List.map_cons,List.map_nil,bv]at ha;have hcell:aC v'=true:=hr2.cell;have hoff':=hkept.off b (by rw [aL];omega) h.off
 obtain⟨r,hr,h1,h2⟩:=aD (P:=Tryz.prog) (E:=EJ) (f:=227) rfl Tryz.func227 rfl (Nat.le_of_ble_eq_true rfl) (by decide) (by kernel_rfl) (H:=H) (args:= [ptr b 0,.int .u8 c.toNat]) (Q:=fun r=>r.1=.nilIface/\r.2=H2.set b ⟨[ptr b 0,v'],180,true⟩) (by
  have hbn:b≠H1.n:=by omega
  simp [hc,hg1,ha,hg2,hcell,hbn])
 obtain⟨u,H3⟩:=r;simp only at h1 h2;subst h1 h2;have hle2:H1.n+1<=H2.n:=hkept.le
 have hset:Bld N (H2.set b ⟨[ptr b 0,v'],180,true⟩) b (l++ [c]) v':=by
  refine⟨⟨_,aw,.inr rfl⟩,?_,hf h.full,hoff',by rw [cG];omega,?_,fun e=>by simp at e⟩
  ·have:=ic (b:=b) (H1:=H2.set b ⟨[ptr b 0,v'],180,true⟩) hr2 hoff' rfl (fun k hk=>ah hk);rw [List.length_append,List.map_append];exact this
  ·have:=h.N;rw [cG];omega
 have hkp:Kp b v H v' (H2.set b ⟨[ptr b 0,v'],180,true⟩):=by
  refine⟨by rw [cG];omega,fun k hk hkb ho=>?_,fun k hk hkb ho=>hkept.off k (by rw [aL];omega) ho,by simp [hkept.base,hb1],by simp [hkept.ng,hng1]⟩;rw [ah hkb,hkept.get k (by rw [aL];omega) ho,aa (by omega),hk1 k hkb]
 obtain⟨H4,e1,e2,e3⟩:=oN h hset hkp;exact⟨_,H4,by rw [hr,e1],e2,e3⟩
end
end Go.Proofs.YtbeoilidocfofaaGreatDoor
namespace Tg.Mi
def until_ (stops:List UInt8):List UInt8->Nat
 | []=>0
 |b::r=>if Go.Lib.indexByte stops b<0 then until_ stops r+1 else 0
theorem until_le (stops:List UInt8): ∀s:List UInt8,until_ stops s<=s.length
 | []=>by simp [until_]
 |b::r=>by
  have:=until_le stops r;unfold until_;split
  ·simp;omega
  ·omega
def while_ (f:UInt8->Bool):List UInt8->Nat
 | []=>0
 |b::r=>if f b=true then while_ f r+1 else 0
theorem while_le (f:UInt8->Bool): ∀s:List UInt8,while_ f s<=s.length
 | []=>by simp [while_]
 |b::r=>by
  have:=while_le f r;unfold while_;split
  ·simp;omega
  ·omega
end Tg.Mi
namespace Go.Proofs.YtbeoilidocfofaaGreatDoor.Mi
open Go.Lg Go.Tg
abbrev cu (s:List UInt8) (i:Nat):LB:=⟨[str s,.int .i64 i],163,true⟩
section
variable {H H':LH} {s t:List UInt8} {l i n:Nat}
theorem wrapI {x:Int} (h1: -9223372036854775808<=x) (h2:x<=9223372036854775807):IntKind.i64.wrap x=x:=wrap64_in h1 h2
theorem dw {s:List UInt8} {i:Nat} (h:i<s.length):at_ s (i:Int)=s[i]:=by
 unfold at_;rw [show((i:Nat):Int).toNat=i by omega,List.getD_eq_getElem?_getD,List.getElem?_eq_getElem h];rfl
theorem dH {v:Value} (h:ao v=false):trunc H (v,H')=(v,H'):=by
 rcases cm v H H' with e|⟨_,e,_⟩
 ·exact e
 ·rw [h]at e;cases e
theorem uD {v:Value} {f:FuncId} {args:List Value} (hk:H.get l=some (cu s i)) (hl:l<H.n) {j:Nat} {x:Int} (hx:x=(j:Int)) (h: ∃r,LC Tryz.prog EJ f args H=some (Lg.trunc H r)/\r=(v,H.set l ⟨[str s,.int .i64 x],163,true⟩)):LC Tryz.prog EJ f args H=some (v,H.set l (cu s j)):=by
 obtain⟨r,h,rfl⟩:=h;subst hx;rw [h,kE hk hl]
theorem Bw:bG Tryz.prog 163 [str [],.int .i64 0] [(0,str s)]=some [str s,.int .i64 0]:=by
 rw [aB (o:=0) (n:=1) (g:=false) (by kernel_rfl) rfl rfl (by decide)];exact oF (by kernel_rfl)
theorem nn:LC Tryz.prog EJ 100 [str s] H=some (ptr H.n 0,H.new (cu s 0)):=by
 obtain⟨r,h,e⟩:=aD (P:=Tryz.prog) (E:=EJ) (f:=100) rfl Tryz.func100 rfl (Nat.le_of_ble_eq_true rfl) (by decide) (by kernel_rfl) (H:=H) (args:= [str s]) (Q:=fun r=>r=(ptr H.n 0,H.new (cu s 0))) (by simp [Bw];rfl);rw [h,e,dH (by simp [ao,az,aA])]
theorem dZ (hk:H.get l=some (cu s i)) (hi:i<=s.length):LC Tryz.prog EJ 186 [ptr l 0] H=some (str (s.drop i),H):=by
 refine ag rfl Tryz.func186 rfl (Nat.le_of_ble_eq_true rfl) (by decide) (by kernel_rfl) rfl ?_;have q:=eq_true (show(i:Int)<=(s.length:Int) by omega);simp [hk,q]
theorem uE (hk:H.get l=some (cu s i)) (hl:l<H.n) (hi:i+n<=s.length) (hs:s.length<=1000000):LC Tryz.prog EJ 197 [ptr l 0,.int .i64 n] H=some (str ((s.drop i).take n),H.set l (cu s (i+n))):=by
 refine uD (x:=(i:Int)+(n:Int)) hk hl rfl (aD (P:=Tryz.prog) (E:=EJ) (f:=197) rfl Tryz.func197 rfl (Nat.le_of_ble_eq_true rfl) (by decide) (by kernel_rfl) ?_);have h1:=dZ hk (by omega);have q:=eq_true (show(n:Int)<=((s.drop i).length:Int) by rw [List.length_drop];omega);have hw:IntKind.i64.wrap ((i:Int)+(n:Int))=(i:Int)+(n:Int):=wrapI (by omega) (by omega);generalize s.drop i=t at*;simp [h1,hk,q,hw]
theorem fq (hk:H.get l=some (cu s i)) (hl:l<H.n) (hi:i<=s.length) (hs:s.length<=1000000) (ht:t.length<=100):LC Tryz.prog EJ 128 [ptr l 0,str t] H=some (.bool (Lib.hasPrefix (s.drop i) t),if Lib.hasPrefix (s.drop i) t=true then H.set l (cu s (i+t.length))else H):=by
 have h1:=dZ hk hi;cases hp:Lib.hasPrefix (s.drop i) t with
 |false=>
  simp only [Bool.false_eq_true,if_false];refine ag rfl Tryz.func128 rfl (Nat.le_of_ble_eq_true rfl) (by decide) (by kernel_rfl) rfl ?_;simp [h1,hp]
 |true=>
  simp only [if_true];refine uD (x:=(i:Int)+(t.length:Int)) hk hl rfl (aD (P:=Tryz.prog) (E:=EJ) (f:=128) rfl Tryz.func128 rfl (Nat.le_of_ble_eq_true rfl) (by decide) (by kernel_rfl) ?_);have hw:IntKind.i64.wrap ((i:Int)+(t.length:Int))=(i:Int)+(t.length:Int):=wrapI (by omega) (by omega);simp [h1,hp,hk,hw]
theorem ie (hk:H.get l=some (cu s i)) (hi:i<=s.length):LC Tryz.prog EJ 176 [ptr l 0,.int .i64 0] H=some (.tuple #[.int .u8 (match s.drop i with| []=>0|b::_=>(b.toNat:Int)),.bool (decide (i<s.length))],H):=by
 have h1:=dZ hk hi;have hd:(s.drop i).length=s.length-i:=List.length_drop
 have hlt:decide (i<s.length)=decide (s.drop i≠ []):=by
  rw [decide_eq_decide];constructor
  ·intro h e;rw [e]at hd;simp at hd;omega
  ·intro h;have:=List.length_pos_iff.mpr h;omega
 rw [hlt];refine ag rfl Tryz.func176 rfl (Nat.le_of_ble_eq_true rfl) (by decide) (by kernel_rfl) rfl ?_;cases hr:s.drop i with
 |nil=>rw [hr]at h1;simp [h1]
 |cons b r=>
  rw [hr]at h1;have hat:at_ (b::r) 0=b:=rfl;have q:=eq_false (show¬((r.length:Int)+1<=0) by omega);simp [h1,hat,q]
theorem dK (hk:H.get l=some (cu s i)) (hl:l<H.n) (hi:i<=s.length) (hs:s.length<=1000000):LC Tryz.prog EJ 147 [ptr l 0,str t] H=some (str ((s.drop i).take (Tg.Mi.until_ t (s.drop i))),H.set l (cu s (i+Tg.Mi.until_ t (s.drop i)))):=by
 have hle:=Tg.Mi.until_le t (s.drop i);have hd:(s.drop i).length=s.length-i:=List.length_drop;refine uD (x:=((i+Tg.Mi.until_ t (s.drop i):Nat):Int)) hk hl rfl (aD (P:=Tryz.prog) (E:=EJ) (f:=147) rfl Tryz.func147 rfl (Nat.le_of_ble_eq_true rfl) (by decide) (by kernel_rfl) ?_);have h1:=dZ hk hi;have hr:=uE (n:=Tg.Mi.until_ t (s.drop i)) hk hl (by omega) hs;generalize hu:Tg.Mi.until_ t (s.drop i)=u at*;generalize s.drop i=x at*;simp [h1];refine aK (fun(j:Nat) fr' H'=>fr' 0=ptr l 0/\fr' 1=str t/\fr' 5=.int .i64 j/\fr' 6=str x/\j<=u/\Tg.Mi.until_ t (x.drop j)+j=u/\H=H') (fun j=>u-j) 0 ⟨by simp,by simp,by simp,by simp,Nat.zero_le _,by simpa using hu,rfl⟩ ?_;rintro j fr' H' ⟨f0,f1,f5,f6,hj,hq,rfl⟩ ih;by_cases hlt:j<x.length
 ·have q0:=eq_true (show(j:Int)<(x.length:Int) by omega);have hw1:IntKind.i64.wrap ((j:Int)+1)=((j+1:Nat):Int):=by rw [wrapI (by omega) (by omega)];omega
  have hat:at_ x (j:Int)=x[j]:=dw hlt;rw [List.drop_eq_getElem_cons hlt]at hq;unfold Tg.Mi.until_ at hq;generalize x[j]=c at*;by_cases hc:Lib.indexByte t c<0
  ·rw [if_pos hc]at hq;have hc:=eq_true hc;simp [f0,f1,f5,f6,q0,hat,hc];refine ih (j+1) _ _ (by omega) ⟨?_,?_,?_,?_,by omega,by omega,rfl⟩
   all_goals simp [f0,f1,f6,hw1]
  ·rw [if_neg hc]at hq;have hc:=eq_false hc;obtain rfl:j=u:=by omega
   simp [f0,f1,f5,f6,q0,hat,hc,hr];rfl
 ·have q0:=eq_false (show¬(j:Int)<(x.length:Int) by omega);rw [List.drop_of_length_le (by omega)]at hq;unfold Tg.Mi.until_ at hq;obtain rfl:j=u:=by omega
  simp [f0,f1,f5,f6,q0,hr];rfl
theorem uF (hk:H.get l=some (cu s i)) (hl:l<H.n) (hi:i<=s.length) (hs:s.length<=1000000):LC Tryz.prog EJ 229 [ptr l 0] H=some (str (s.drop i),H.set l (cu s s.length)):=by
 refine uD (x:=(s.length:Int)) hk hl rfl (aD (P:=Tryz.prog) (E:=EJ) (f:=229) rfl Tryz.func229 rfl (Nat.le_of_ble_eq_true rfl) (by decide) (by kernel_rfl) ?_);have h1:=dZ hk hi;have hd:(s.drop i).length=s.length-i:=List.length_drop;have hr:=uE (n:=(s.drop i).length) hk hl (by omega) hs;rw [List.take_length,hd,show i+(s.length-i)=s.length by omega]at hr;have hr:LC Tryz.prog EJ 197 [ptr l 0,.int .i64 ((s.drop i).length:Nat)] H=some (str (s.drop i),H.set l (cu s s.length)):=by rw [hd];exact hr
 generalize s.drop i=x at*;simp [h1,hr]
theorem Bx (hk:H.get l=some (cu s i)) (hi:i<=s.length):LC Tryz.prog EJ 188 [ptr l 0] H=some (.bool (decide (s.drop i= [])),H):=by
 refine ag rfl Tryz.func188 rfl (Nat.le_of_ble_eq_true rfl) (by decide) (by kernel_rfl) rfl ?_;have h1:=dZ hk hi;simp [h1]
theorem By (hk:H.get l=some (cu s i)):LC Tryz.prog EJ 200 [ptr l 0] H=some (.int .i64 i,H):=by
 refine ag rfl Tryz.func200 rfl (Nat.le_of_ble_eq_true rfl) (by decide) (by kernel_rfl) rfl ?_;simp [hk]
theorem np (hk:H.get l=some (cu s i)):LC Tryz.prog EJ 146 [ptr l 0] H=some (.int .i64 i,H):=by
 refine ag rfl Tryz.func146 rfl (Nat.le_of_ble_eq_true rfl) (by decide) (by kernel_rfl) rfl ?_;have h1:=By hk;simp [h1]
theorem qg {x y:Int} :LC Tryz.prog EJ 145 [.bool true,.int .i64 x,.int .i64 y] H=some (.tuple #[],H):=by
 refine ag rfl Tryz.func145 rfl (Nat.le_of_ble_eq_true rfl) (by decide) (by kernel_rfl) rfl ?_;simp
theorem Fh (hk:H.get l=some (cu s i)) (hl:l<H.n) (hi:i+n<=s.length) (hs:s.length<=1000000):LC Tryz.prog EJ 202 [ptr l 0,.int .i64 n] H=some (str ((s.drop i).take n),H.set l (cu s (i+n))):=by
 refine uD (x:=(i:Int)+(n:Int)) hk hl rfl (aD (P:=Tryz.prog) (E:=EJ) (f:=202) rfl Tryz.func202 rfl (Nat.le_of_ble_eq_true rfl) (by decide) (by kernel_rfl) ?_);have h1:=dZ hk (by omega);have q:=eq_true (show(n:Int)<=((s.drop i).length:Int) by rw [List.length_drop];omega);have q2:=eq_true (show(0:Int)<=(n:Int) by omega);have hw:IntKind.i64.wrap ((i:Int)+(n:Int))=(i:Int)+(n:Int):=wrapI (by omega) (by omega);have hc:=fun(H:LH) (x y:Int)=>qg (H:=H) (x:=x) (y:=y);generalize s.drop i=t at*;simp [h1,hk,q,q2,hw,hc]
theorem qh (hk:H.get l=some (cu s i)) (hl:l<H.n) (hi:i<s.length) (hs:s.length<=1000000):LC Tryz.prog EJ 148 [ptr l 0] H=some (.int .u8 s[i].toNat,H.set l (cu s (i+1))):=by
 refine uD (x:=((i+1:Nat):Int)) hk hl rfl (aD (P:=Tryz.prog) (E:=EJ) (f:=148) rfl Tryz.func148 rfl (Nat.le_of_ble_eq_true rfl) (by decide) (by kernel_rfl) ?_);have h1:=Fh (n:=1) hk hl (by omega) hs;rw [List.drop_eq_getElem_cons hi,show(s[i]::s.drop (i+1)).take 1= [s[i]] from rfl]at h1;have h1:LC Tryz.prog EJ 202 [ptr l 0,.int .i64 1] H=some (str [s[i]],H.set l (cu s (i+1))):=h1;generalize s[i]=b at*;have hat:at_ [b] 0=b:=rfl;simp [h1,hat]
 try rfl
theorem fO {g:FuncId} {p:UInt8->Bool} (hg: ∀(H:LH) (b:UInt8),LC Tryz.prog EJ g [.int .u8 b.toNat] H=some (.bool (p b),H)) (hk:H.get l=some (cu s i)) (hl:l<H.n) (hi:i<=s.length) (hs:s.length<=1000000):LC Tryz.prog EJ 143 [ptr l 0,.func (.func g) #[] #[]] H=some (str ((s.drop i).take (Tg.Mi.while_ p (s.drop i))),H.set l (cu s (i+Tg.Mi.while_ p (s.drop i)))):=by
 have hle:=Tg.Mi.while_le p (s.drop i);have hd:(s.drop i).length=s.length-i:=List.length_drop;refine uD (x:=((i+Tg.Mi.while_ p (s.drop i):Nat):Int)) hk hl rfl (aD (P:=Tryz.prog) (E:=EJ) (f:=143) rfl Tryz.func143 rfl (Nat.le_of_ble_eq_true rfl) (by decide) (by kernel_rfl) ?_);have h1:=dZ hk hi;have hr:=uE (n:=Tg.Mi.while_ p (s.drop i)) hk hl (by omega) hs;have hfn:=iM (g:=g) (f:=#[]) (cp:=#[]) Tryz.underlying138;generalize hu:Tg.Mi.while_ p (s.drop i)=u at*;generalize s.drop i=x at*;simp [h1];refine aK (fun(j:Nat) fr' H'=>fr' 0=ptr l 0/\fr' 1=.func (.func g) #[] #[]/\fr' 5=.int .i64 j/\fr' 6=str x/\j<=u/\Tg.Mi.while_ p (x.drop j)+j=u/\H=H') (fun j=>u-j) 0 ⟨by simp,by simp,by simp,by simp,Nat.zero_le _,by simpa using hu,rfl⟩ ?_;rintro j fr' H' ⟨f0,f1,f5,f6,hj,hq,rfl⟩ ih;by_cases hlt:j<x.length
 ·have q0:=eq_true (show(j:Int)<(x.length:Int) by omega);have hw1:IntKind.i64.wrap ((j:Int)+1)=((j+1:Nat):Int):=by rw [wrapI (by omega) (by omega)];omega
  have hat:at_ x (j:Int)=x[j]:=dw hlt;rw [List.drop_eq_getElem_cons hlt]at hq;unfold Tg.Mi.while_ at hq;generalize x[j]=c at*;cases hc:p c with
  |true=>
   rw [if_pos hc]at hq;have hgc:=fun H=>hg H c;rw [hc]at hgc;simp [f0,f1,f5,f6,q0,hat,hgc,hfn];refine ih (j+1) _ _ (by omega) ⟨?_,?_,?_,?_,by omega,by omega,rfl⟩
   all_goals simp [f0,f1,f6,hw1]
  |false=>
   rw [if_neg (by rw [hc];decide)]at hq;have hgc:=fun H=>hg H c;rw [hc]at hgc;obtain rfl:j=u:=by omega
   simp [f0,f1,f5,f6,q0,hat,hgc,hr,hfn];rfl
 ·have q0:=eq_false (show¬(j:Int)<(x.length:Int) by omega);rw [List.drop_of_length_le (by omega)]at hq;unfold Tg.Mi.while_ at hq;obtain rfl:j=u:=by omega
  simp [f0,f1,f5,f6,q0,hr,hfn];rfl
end
structure Two (N:Nat) (H:LH) (b1 b2:Nat) (l1 l2:List UInt8) (v1 v2:Value):Prop where
 one:Bld N H b1 l1 v1
 two:Bld N H b2 l2 v2
 ne:b1≠b2
 n1:N<=b1
 n2:N<=b2
 sep: ∀k,ay v1 k\/ay v2 k
section
variable {H H':LH} {N b1 b2:Nat} {l1 l2 s:List UInt8} {v1 v2 v':Value} {c:UInt8}
theorem Two.swap (h:Two N H b1 b2 l1 l2 v1 v2):Two N H b2 b1 l2 l1 v2 v1:=⟨h.two,h.one,h.ne.symm,h.n2,h.n1,fun k=>(h.sep k).symm⟩
theorem ft {b k:Nat} {l l':List UInt8} {v v':Value} (h:Bld N H b l v) (h':Bld N H k l' v'):ay v k:=by
 obtain⟨p,hg,_⟩:=h'.get;exact bA.off_of_elem h.row hg (by show 180≠5;decide)
theorem Two.step {l1':List UInt8} (h:Two N H b1 b2 l1 l2 v1 v2) (h1:Bld N H' b1 l1' v') (hk:Kp b1 v1 H v' H'):Two N H' b1 b2 l1' l2 v' v2:=by
 have ho2:ay v1 b2:=ft h.one h.two;refine⟨h1,?_,h.ne,h.n1,h.n2,fun k=>?_⟩
 ·obtain⟨p,hg,hp⟩:=h.two.get;refine⟨⟨p,by rw [hk.keep b2 h.two.lt h.ne.symm ho2];exact hg,hp⟩,?_,h.two.full,h.two.off,Nat.lt_of_lt_of_le h.two.lt hk.n,h1.N,h.two.nil⟩;refine h.two.row.keep hk.n (fun k _ hno hkn=>hk.keep k hkn (fun e=>?_) ((h.sep k).resolve_right hno));subst e;exact hno (ft h.two h.one)
 ·by_cases hno:ay v2 k
  ·exact .inr hno
  ·by_cases hkb:k=b1
   ·subst hkb;exact absurd (ft h.two h.one) hno
   ·by_cases hkn:k<H.n
    ·exact .inl (hk.off k hkn hkb ((h.sep k).resolve_right hno))
    ·exact absurd (bA.off_ge h.two.row (by omega)) hno
theorem Two.str1 (h:Two N H b1 b2 l1 l2 v1 v2) (hlen:l1.length+s.length<=aH): ∃v' H',LC Tryz.prog EJ 175 [ptr b1 0,str s] H=some (.tuple #[.int .i64 s.length,.nilIface],H')/\Two N H' b1 b2 (l1++s) l2 v' v2/\H.n<=H'.n/\ ∀k,k<N->H'.get k=H.get k:=by
 obtain⟨v',H',e,hb,hk⟩:=qf h.one hlen;refine⟨v',H',e,h.step hb hk,hk.n,fun k hk2=>hk.keep k (by have:=h.one.N;omega) (by have:=h.n1;omega) ?_⟩;rcases h.one.row.2 with⟨rfl,_⟩|⟨k',c',rest,rfl,g1,_⟩
 ·intro n c e;cases e
 ·intro n c e;injection e with e;injection e with e;injection e with e;omega
theorem Two.byte1 (h:Two N H b1 b2 l1 l2 v1 v2) (hlen:l1.length+1<=aH): ∃v' H',LC Tryz.prog EJ 227 [ptr b1 0,.int .u8 c.toNat] H=some (.nilIface,H')/\Two N H' b1 b2 (l1++ [c]) l2 v' v2/\H.n<=H'.n/\ ∀k,k<N->H'.get k=H.get k:=by
 obtain⟨v',H',e,hb,hk⟩:=Bv h.one hlen;refine⟨v',H',e,h.step hb hk,hk.n,fun k hk2=>hk.keep k (by have:=h.one.N;omega) (by have:=h.n1;omega) ?_⟩;rcases h.one.row.2 with⟨rfl,_⟩|⟨k',c',rest,rfl,g1,_⟩
 ·intro n c e;cases e
 ·intro n c e;injection e with e;injection e with e;injection e with e;omega
theorem Two.str2 (h:Two N H b1 b2 l1 l2 v1 v2) (hlen:l2.length+s.length<=aH): ∃v' H',LC Tryz.prog EJ 175 [ptr b2 0,str s] H=some (.tuple #[.int .i64 s.length,.nilIface],H')/\Two N H' b1 b2 l1 (l2++s) v1 v'/\H.n<=H'.n/\ ∀k,k<N->H'.get k=H.get k:=by
 obtain⟨v',H',e,h2,h3,h4⟩:=h.swap.str1 hlen;exact⟨v',H',e,h2.swap,h3,h4⟩
theorem Two.byte2 (h:Two N H b1 b2 l1 l2 v1 v2) (hlen:l2.length+1<=aH): ∃v' H',LC Tryz.prog EJ 227 [ptr b2 0,.int .u8 c.toNat] H=some (.nilIface,H')/\Two N H' b1 b2 l1 (l2++ [c]) v1 v'/\H.n<=H'.n/\ ∀k,k<N->H'.get k=H.get k:=by
 obtain⟨v',H',e,h2,h3,h4⟩:=h.swap.byte1 hlen;exact⟨v',H',e,h2.swap,h3,h4⟩
theorem Two.low {k:Nat} {B:LB} (h:Two N H b1 b2 l1 l2 v1 v2) (hk:k<N):Two N (H.set k B) b1 b2 l1 l2 v1 v2:=by
 have hx: ∀j,N<=j->(H.set k B).get j=H.get j:=fun j hj=>ah (by omega)
 have one: ∀ {b:Nat} {l:List UInt8} {v:Value},N<=b->Bld N H b l v->Bld N (H.set k B) b l v:=fun {b l v} hb h=>
  ⟨by obtain⟨p,hg,hp⟩:=h.get;exact⟨p,by rw [hx b hb];exact hg,hp⟩,h.row.keep (Nat.le_refl _) (fun j hj _ _=>hx j hj),h.full,h.off,h.lt,h.N,h.nil⟩
 exact⟨one h.n1 h.one,one h.n2 h.two,h.ne,h.n1,h.n2,h.sep⟩
theorem Two.first:Two H.n ((H.new ⟨[.pointer none,.slice none 0 0],180,true⟩).new ⟨[.pointer none,.slice none 0 0],180,true⟩) H.n (H.n+1) [] [] (.slice none 0 0) (.slice none 0 0):=by
 have ho: ∀k,ay (.slice none 0 0) k:=fun k n c e=>by cases e
 refine⟨⟨⟨_,by rw [aa (by simp)];exact ak,.inl rfl⟩,bA.nil,(by unfold Full;simp),ho _,(by simp;omega),(by simp;omega),fun _=>rfl⟩,⟨⟨_,by exact ak,.inl rfl⟩,bA.nil,(by unfold Full;simp),ho _,(by simp),(by simp;omega),fun _=>rfl⟩,by omega,Nat.le_refl _,by omega,fun k=>.inl (ho k)⟩
end
end Go.Proofs.YtbeoilidocfofaaGreatDoor.Mi
namespace Go.Proofs.YtbeoilidocfofaaGreatDoor
open Go.Lg Go.Tg
def iO (s:Lg.Spec):Prop:= ∀args H v H',s args H=some (v,H')->Bs H H'
theorem jN {g:List Value->Option Value} :iO (bN g):=by
 intro args H v H' h;unfold bN at h
 (repeat' split at h)<;>first|(cases h;done)|(simp only [Option.some.injEq,Prod.mk.injEq]at h;obtain⟨_,rfl⟩:=h;exact⟨rfl,rfl⟩)|(obtain⟨u,_,e⟩:=Option.map_eq_some_iff.1 h;simp only [Prod.mk.injEq]at e;obtain⟨_,rfl⟩:=e;exact⟨rfl,rfl⟩)
theorem Bz:iO dt:=by
 intro args H v H' h;unfold dt at h
 (repeat' split at h)<;>first|(cases h;done)|(simp only [Option.some.injEq,Prod.mk.injEq]at h;obtain⟨_,rfl⟩:=h;exact⟨rfl,rfl⟩)
theorem BA:iO dV:=by
 intro args H v H' h;unfold dV at h
 (repeat' split at h)<;>first|(cases h;done)|(simp only [Option.some.injEq,Prod.mk.injEq]at h;obtain⟨_,rfl⟩:=h;exact⟨rfl,rfl⟩)|(obtain⟨u,_,e⟩:=Option.map_eq_some_iff.1 h;simp only [Prod.mk.injEq]at e;obtain⟨_,rfl⟩:=e;exact⟨rfl,rfl⟩)
theorem Fj:iO ek:=by
 intro args H v H' h;unfold ek at h
 (repeat' split at h)<;>first|(cases h;done)|(simp only [Option.some.injEq,Prod.mk.injEq]at h;obtain⟨_,rfl⟩:=h;exact⟨rfl,rfl⟩)|(obtain⟨u,_,e⟩:=Option.map_eq_some_iff.1 h;simp only [Prod.mk.injEq]at e;obtain⟨_,rfl⟩:=e;exact⟨rfl,rfl⟩)
theorem Fk:iO dI:=by
 intro args H v H' h;unfold dI at h
 (repeat' split at h)<;>first|(cases h;done)|(simp only [Option.some.injEq,Prod.mk.injEq]at h;obtain⟨_,rfl⟩:=h;exact⟨rfl,rfl⟩)|(obtain⟨u,_,e⟩:=Option.map_eq_some_iff.1 h;simp only [Prod.mk.injEq]at e;obtain⟨_,rfl⟩:=e;exact⟨rfl,rfl⟩)
theorem Fl:iO dJ:=by
 intro args H v H' h;unfold dJ at h
 (repeat' split at h)<;>first|(cases h;done)|(simp only [Option.some.injEq,Prod.mk.injEq]at h;obtain⟨_,rfl⟩:=h;exact⟨rfl,rfl⟩)|(obtain⟨u,_,e⟩:=Option.map_eq_some_iff.1 h;simp only [Prod.mk.injEq]at e;obtain⟨_,rfl⟩:=e;exact⟨rfl,rfl⟩)
theorem KH: ∀p∈fM,iO p.2:=by
 intro p hp;unfold fM at hp;rcases List.mem_cons.1 hp with rfl|hp
 ·exact jN
 rcases List.mem_cons.1 hp with rfl|hp
 ·exact jN
 rcases List.mem_cons.1 hp with rfl|hp
 ·exact jN
 rcases List.mem_cons.1 hp with rfl|hp
 ·exact BA
 rcases List.mem_cons.1 hp with rfl|hp
 ·exact Fj
 rcases List.mem_cons.1 hp with rfl|hp
 ·exact Fk
 rcases List.mem_cons.1 hp with rfl|hp
 ·exact Fl
 rcases List.mem_cons.1 hp with rfl|hp
 ·exact jN
 rcases List.mem_cons.1 hp with rfl|hp
 ·exact jN
 rcases List.mem_cons.1 hp with rfl|hp
 ·exact Bz
 cases hp
theorem BB {f:FuncId} {args:List Value} {H H':LH} {v:Value} (h:LC Tryz.prog EJ f args H=some (v,H')):Bs H H':=
 M9 (fun f s hs args H v H' hr=>by
  have hs:((fM).find? (fun p=>p.1==f)).map (·.2)=some s:=hs;obtain⟨p,hp,rfl⟩:=Option.map_eq_some_iff.1 hs;exact KH p (List.mem_of_find?_eq_some hp) args H v H' hr) h
theorem dU.bs {H H':LH} (h:dU H) (hb:Bs H H'):dU H':=⟨by rw [hb.2];exact h.1,by rw [hb.1];exact h.2⟩
end Go.Proofs.YtbeoilidocfofaaGreatDoor
namespace Tg.Mi
def coll:List UInt8->List UInt8×List UInt8×Nat
 | []=>([],[],0)
 |b::r=>if b=34 then([],[34],1)else if b=92 then(match r with
   | []=>([92],[92],1)
   |c::r'=>(c::(coll r').1,92::c::(coll r').2.1,(coll r').2.2+2))else(b::(coll r).1,b::(coll r).2.1,(coll r).2.2+1)
theorem KI: ∀k:Fin 256,(Go.Lib.indexByte [34,92] (UInt8.ofNat k.1)<0↔UInt8.ofNat k.1≠34/\UInt8.ofNat k.1≠92):=by decide+kernel
theorem sD (b:UInt8):Go.Lib.indexByte [34,92] b<0↔b≠34/\b≠92:=by
 have h:=KI ⟨b.toNat,b.toNat_lt⟩;simpa using h
theorem coll_until: ∀x:List UInt8,coll x=(x.take (until_ [34,92] x)++(coll (x.drop (until_ [34,92] x))).1,x.take (until_ [34,92] x)++(coll (x.drop (until_ [34,92] x))).2.1,until_ [34,92] x+(coll (x.drop (until_ [34,92] x))).2.2)
 | []=>by simp [until_,coll]
 |b::r=>by
  by_cases h:Go.Lib.indexByte [34,92] b<0
  ·have ih:=coll_until r;obtain⟨h1,h2⟩:=(sD b).1 h
   have e:until_ [34,92] (b::r)=until_ [34,92] r+1:=by
    conv=>lhs;unfold until_
    rw [if_pos h]
   rw [e]
   have e2:coll (b::r)=(b::(coll r).1,b::(coll r).2.1,(coll r).2.2+1):=by
    conv=>lhs;unfold coll
    rw [if_neg h1,if_neg h2]
   rw [e2,ih];simp only [List.take_succ_cons,List.drop_succ_cons,List.cons_append];congr 2;omega
  ·have e:until_ [34,92] (b::r)=0:=by
    conv=>lhs;unfold until_
    rw [if_neg h]
   rw [e];simp
theorem until_stop: ∀ {x:List UInt8} {b:UInt8} {r:List UInt8},x.drop (until_ [34,92] x)=b::r->b=34\/b=92
 | [],b,r,h=>by simp [until_]at h
 |a::y,b,r,h=>by
  unfold until_ at h;split at h
  ·exact until_stop (x:=y) (by simpa using h)
  ·rename_i hn;simp only [List.drop_zero,List.cons.injEq]at h;obtain⟨rfl,_⟩:=h;by_cases h1:a=34
   ·exact .inl h1
   ·by_cases h2:a=92
    ·exact .inr h2
    ·exact absurd ((sD a).2 ⟨h1,h2⟩) hn
end Tg.Mi
namespace Go.Proofs.YtbeoilidocfofaaGreatDoor.Mi
open Go.Lg Go.Tg
section
variable {H H':LH} {N b:Nat} {l s:List UInt8} {v:Value}
theorem qj (h:Bld N H b l v) (hm:l.length<=maxLen): ∃H',LC Tryz.prog EJ 179 [ptr b 0] H=some (str l,H')/\H'.n=H.n/\ ∀k,ay v k->H'.get k=H.get k:=by
 obtain⟨p,hg,hp⟩:=h.get;rcases h.row.2 with⟨rfl,h0⟩|⟨k,c,rest,rfl,g1,g2,g3,g4,g5⟩
 ·have hl:l= []:=List.eq_nil_of_length_eq_zero h0;subst hl;refine⟨H,dj (s:=dJ) rfl ?_,rfl,fun _ _=>rfl⟩;unfold dJ;simp only [hg]
 ·rcases Nat.eq_zero_or_pos l.length with h0|h0
  ·exfalso;have:=h.nil (List.eq_nil_of_length_eq_zero h0);cases this
  ·refine⟨H.kill k,dj (s:=dJ) rfl ?_,rfl,fun j hj=>ck (fun e=>hj l.length c (by rw [e]))⟩;have htk:(l.map bv++rest).take l.length=l.map bv:=by simp
   unfold dJ;simp only [hg,g3];rw [if_pos ⟨l,by intro e;rw [e]at h0;simp at h0,htk,rfl,g4,hm,rfl⟩,htk,pT];rfl
theorem Two.texts {b1 b2:Nat} {l1 l2:List UInt8} {v1 v2:Value} (h:Two N H b1 b2 l1 l2 v1 v2) (h1:l1.length<=maxLen) (h2:l2.length<=maxLen): ∃H1 H2,LC Tryz.prog EJ 179 [ptr b1 0] H=some (str l1,H1)/\LC Tryz.prog EJ 179 [ptr b2 0] H1=some (str l2,H2)/\H2.n=H.n/\ ∀k,k<N->H2.get k=H.get k:=by
 obtain⟨H1,e1,n1,k1⟩:=qj h.one h1
 have hb2:Bld N H1 b2 l2 v2:=by
  obtain⟨p,hg,hp⟩:=h.two.get;exact⟨⟨p,by rw [k1 _ (ft h.one h.two)];exact hg,hp⟩,h.two.row.keep (by omega) (fun k _ hno _=>k1 k ((h.sep k).resolve_right hno)),h.two.full,h.two.off,by rw [n1];exact h.two.lt,by rw [n1];exact h.two.N,h.two.nil⟩
 obtain⟨H2,e2,n2,k2⟩:=qj hb2 h2
 have low: ∀ {b:Nat} {l:List UInt8} {v:Value} {G:LH},Bld N G b l v-> ∀k,k<N->ay v k:=fun {b l v G} hb k hk=>by
  rcases hb.row.2 with⟨rfl,_⟩|⟨k',c',rest,rfl,g1,_⟩
  ·intro n c e;cases e
  ·intro n c e;injection e with e;injection e with e;injection e with e;omega
 exact⟨H1,H2,e1,e2,by omega,fun k hk=>by rw [k2 k (low hb2 k hk),k1 k (low h.one k hk)]⟩
end
section
variable {H H':LH} {N b l i:Nat} {s:List UInt8} {v:Value}
structure OutC (H:LH) (l:Nat) (s:List UInt8) (j:Nat) (H':LH):Prop where
 get:H'.get l=some (cu s j)
 n:H.n<=H'.n
 old: ∀k,k<H.n->k≠l->H'.get k=H.get k
theorem nq (hk:H.get l=some (cu s i)) (hl:l<H.n) (hi:i<s.length) (hs:s.length<=100000) (hq:s[i]=34):
  ∃H',LC Tryz.prog EJ 177 [ptr l 0] H=some (.tuple #[str (Tg.Mi.coll (s.drop (i+1))).1,str (34::(Tg.Mi.coll (s.drop (i+1))).2.1)],H')/\OutC H l s (i+1+(Tg.Mi.coll (s.drop (i+1))).2.2) H':=by
 have key: ∃r,LC Tryz.prog EJ 177 [ptr l 0] H=some (Lg.trunc H r)/\r.1=.tuple #[str (Tg.Mi.coll (s.drop (i+1))).1,str (34::(Tg.Mi.coll (s.drop (i+1))).2.1)]/\OutC H l s (i+1+(Tg.Mi.coll (s.drop (i+1))).2.2) r.2:=by
  refine aD (P:=Tryz.prog) (E:=EJ) (f:=177) rfl Tryz.func177 rfl (Nat.le_of_ble_eq_true rfl) (by decide) (by kernel_rfl) ?_;obtain⟨Hb,hHb⟩: ∃Hb,Hb=(H.new ⟨[.pointer none,.slice none 0 0],180,true⟩).new ⟨[.pointer none,.slice none 0 0],180,true⟩:=⟨_,rfl⟩
  have hnb:Hb.n=H.n+1+1:=by rw [hHb];rfl
  have hkb:Hb.get l=some (cu s i):=by rw [hHb,aa (by simp;omega),aa (by omega)];exact hk
  have hob: ∀k,k<H.n->Hb.get k=H.get k:=fun k hk2=>by rw [hHb,aa (by simp;omega),aa (by omega)]
  have htw:Two H.n Hb H.n (H.n+1) [] [] (.slice none 0 0) (.slice none 0 0):=by rw [hHb];exact Two.first
  have hsk:=fq (t:= [34]) hkb (by omega) (by omega) (by omega) (by decide);have hpre:Lib.hasPrefix (s.drop i) [34]=true:=by rw [List.drop_eq_getElem_cons hi,hq];simp [Lib.hasPrefix]
  rw [hpre,if_pos rfl]at hsk;have hsk:LC Tryz.prog EJ 128 [ptr l 0,str [34]] Hb=some (.bool true,Hb.set l (cu s (i+1))):=hsk;have hat:=np (H:=Hb.set l (cu s (i+1))) (l:=l) aw;have hck:=fun(H:LH) (x y:Int)=>qg (H:=H) (x:=x) (y:=y);obtain⟨v2,H1,w1,w2,w3,w4⟩:=(htw.low (B:=cu s (i+1)) hl).byte2 (c:=34) (by decide);have w1:LC Tryz.prog EJ 227 [ptr (H.n+1) 0,.int .u8 34] (Hb.set l (cu s (i+1)))=some (.nilIface,H1):=w1;simp [<-hHb,hsk,hat,hck,w1];obtain⟨T,hT⟩: ∃T,T=Tg.Mi.coll (s.drop (i+1)):=⟨_,rfl⟩
  rw [<-hT];refine aK (fun(j:Nat) fr' H'=> ∃t a v1 v2,fr' 0=ptr l 0/\fr' 4=ptr H.n 0/\fr' 5=ptr (H.n+1) 0/\i+1<=j/\j<=s.length/\t.length<=j/\a.length<=j/\Two H.n H' H.n (H.n+1) t (34::a) v1 v2/\H'.get l=some (cu s j)/\H.n<=H'.n/\(∀k,k<H.n->k≠l->H'.get k=H.get k)/\T.1=t++(Tg.Mi.coll (s.drop j)).1/\T.2.1=a++(Tg.Mi.coll (s.drop j)).2.1/\i+1+T.2.2=j+(Tg.Mi.coll (s.drop j)).2.2) (fun j=>s.length-j) (i+1) ⟨[],[],_,v2,by simp,by simp,by simp,Nat.le_refl _,by omega,by simp,by simp,w2,by rw [w4 l hl,aw],by have:=w3;simp at this;omega,fun k hk2 hne=>by rw [w4 k hk2,ah hne,hob k hk2],by rw [hT];simp,by rw [hT];simp,by rw [hT]⟩ ?_;rintro j fr' H2 ⟨t,a,v1,v2',f0,f4,f5,hj1,hj2,htl,hal,htw2,hcu,hn2,hold,q1,q2,q3⟩ ih;have hu:=dK (t:= [34,92]) hcu (by omega) hj2 (by omega);have hul:=Tg.Mi.until_le [34,92] (s.drop j);have hdl:(s.drop j).length=s.length-j:=List.length_drop;have hcoll:=Tg.Mi.coll_until (s.drop j);have hstop:=fun b r=>Tg.Mi.until_stop (x:=s.drop j) (b:=b) (r:=r);rw [hcoll]at q1 q2 q3;rw [List.drop_drop]at q1 q2 q3 hstop;simp only at q1 q2 q3;have hxl:((s.drop j).take (Tg.Mi.until_ [34,92] (s.drop j))).length=Tg.Mi.until_ [34,92] (s.drop j):=by rw [List.length_take];omega
  generalize (s.drop j).take (Tg.Mi.until_ [34,92] (s.drop j))=x at*;generalize Tg.Mi.until_ [34,92] (s.drop j)=u at*;obtain⟨v3,H3,e3,t3,n3,k3⟩:=(htw2.low (B:=cu s (j+u)) hl).str1 (s:=x) (by unfold aH;omega);obtain⟨v4,H4,e4,t4,n4,k4⟩:=t3.str2 (s:=x) (by unfold aH;simp;omega);have n3:H2.n<=H3.n:=n3;have c4:H4.get l=some (cu s (j+u)):=by rw [k4 l hl,k3 l hl,aw]
  have o4: ∀k,k<H.n->k≠l->H4.get k=H.get k:=fun k hk2 hne=>by rw [k4 k hk2,k3 k hk2,ah hne,hold k hk2 hne]
  have hpk:=ie c4 (by omega);have hlen4:(s.drop (j+u)).length=s.length-(j+u):=List.length_drop;clear htw2 t3 hcoll;cases hy:s.drop (j+u)with
  |nil=>
   rw [hy]at hpk q1 q2 q3 hlen4;have hlt:decide (j+u<s.length)=false:=decide_eq_false (by simp at hlen4;omega);rw [hlt]at hpk;simp only [Tg.Mi.coll,List.append_nil]at q1 q2 q3;obtain⟨H5,H6,e5,e6,n6,k6⟩:=t4.texts (by unfold maxLen;simp;omega) (by unfold maxLen;simp;omega);clear ih;simp [f0,f4,f5,hu,e3,e4,hpk,e5,e6];rw [q1,q2];exact⟨⟨rfl,rfl⟩,by rw [k6 l hl,c4];congr 2;omega,by omega,fun k hk2 hne=>by rw [k6 k hk2,o4 k hk2 hne]⟩
  |cons b r=>
   rw [hy]at hpk q1 q2 q3 hlen4;have hlt0:j+u<s.length:=by simp at hlen4;omega
   rw [decide_eq_true hlt0]at hpk;have hpk:LC Tryz.prog EJ 176 [ptr l 0,.int .i64 0] H4=some (.tuple #[.int .u8 b.toNat,.bool true],H4):=hpk;have hnx:=qh c4 (by omega) hlt0 (by omega);obtain⟨v5,H5,e5,t5,n5,k5⟩:=(t4.low (B:=cu s (j+u+1)) hl).byte2 (c:=b) (by unfold aH;simp;omega);have n5:H4.n<=H5.n:=n5;have c5:H5.get l=some (cu s (j+u+1)):=by rw [k5 l hl,aw]
   have o5: ∀k,k<H.n->k≠l->H5.get k=H.get k:=fun k hk2 hne=>by rw [k5 k hk2,ah hne,o4 k hk2 hne]
   have hr:s.drop (j+u+1)=r:=by rw [<-List.drop_drop,hy];rfl
   rcases hstop b r hy with hb|hb
   ·subst hb
    have hc1:Tg.Mi.coll (34::r)=([],[34],1):=by
     conv=>lhs;unfold Tg.Mi.coll
     rw [if_pos rfl]
    rw [hc1]at q1 q2 q3;simp only [List.append_nil]at q1;simp only at q2 q3;obtain⟨H6,H7,e6,e7,n7,k7⟩:=t5.texts (by unfold maxLen;simp;omega) (by unfold maxLen;simp;omega);have hb34:((UInt8.toNat 34:Nat):Int)=34:=rfl;rw [hb34]at hpk e5;clear ih;simp [f0,f4,f5,hu,e3,e4,hpk,hnx,e5,e6,e7];rw [q1,q2];exact⟨⟨rfl,by simp⟩,by rw [k7 l hl,c5];congr 2;omega,by omega,fun k hk2 hne=>by rw [k7 k hk2,o5 k hk2 hne]⟩
   ·subst hb;have hpk2:=ie c5 (by omega);have hb92:((UInt8.toNat 92:Nat):Int)=92:=rfl;rw [hb92]at hpk e5;rw [hr]at hpk2;cases r with
    |nil=>
     have hlt2:decide (j+u+1<s.length)=false:=decide_eq_false (by simp at hlen4;omega);rw [hlt2]at hpk2;have hc1:Tg.Mi.coll [92]=([92],[92],1):=rfl;rw [hc1]at q1 q2 q3;obtain⟨v6,H6,e6,t6,n6,k6⟩:=t5.byte1 (c:=92) (by unfold aH;simp;omega);have e6:LC Tryz.prog EJ 227 [ptr H.n 0,.int .u8 92] H5=some (.nilIface,H6):=e6;have hfin:=fun fr2 (g0:fr2 0=ptr l 0) (g4:fr2 4=ptr H.n 0) (g5:fr2 5=ptr (H.n+1) 0)=>ih (j+u+1) fr2 H6 (by omega) ⟨t++x++ [92],a++x++ [92],v6,v5,g0,g4,g5,by omega,by omega,by simp;omega,by simp;omega,t6,by rw [k6 l hl];exact c5,by omega,fun k hk2 hne=>by rw [k6 k hk2,o5 k hk2 hne],by rw [hr,q1];simp [Tg.Mi.coll],by rw [hr,q2];simp [Tg.Mi.coll],by rw [hr,q3];simp [Tg.Mi.coll];omega⟩;clear ih;simp [f0,f4,f5,hu,e3,e4,hpk,hnx,e5,hpk2,e6];refine hfin _ ?_ ?_ ?_
     all_goals simp [f0,f4,f5]
    |cons c r'=>
     have hlt2:j+u+1<s.length:=by simp at hlen4;omega
     rw [decide_eq_true hlt2]at hpk2;have hpk2:LC Tryz.prog EJ 176 [ptr l 0,.int .i64 0] H5=some (.tuple #[.int .u8 c.toNat,.bool true],H5):=hpk2;have hnx2:=qh c5 (by omega) hlt2 (by omega)
     have hc1:Tg.Mi.coll (92::c::r')=(c::(Tg.Mi.coll r').1,92::c::(Tg.Mi.coll r').2.1,(Tg.Mi.coll r').2.2+2):=by
      conv=>lhs;unfold Tg.Mi.coll
      rfl
     rw [hc1]at q1 q2 q3
     have hr2:s.drop (j+u+2)=r':=by
      have:s.drop (j+u+1+1)=r':=by rw [<-List.drop_drop,hr];rfl
      exact this
     obtain⟨v6,H6,e6,t6,n6,k6⟩:=(t5.low (B:=cu s (j+u+1+1)) hl).byte1 (c:=c) (by unfold aH;simp;omega);obtain⟨v7,H7,e7,t7,n7,k7⟩:=t6.byte2 (c:=c) (by unfold aH;simp;omega);have n6:H5.n<=H6.n:=n6;have hfin:=fun fr2 (g0:fr2 0=ptr l 0) (g4:fr2 4=ptr H.n 0) (g5:fr2 5=ptr (H.n+1) 0)=>ih (j+u+2) fr2 H7 (by omega) ⟨t++x++ [c],a++x++ [92]++ [c],v6,v7,g0,g4,g5,by omega,by omega,by simp;omega,by simp;omega,by rw [show 34::(a++x++ [92]++ [c])=34::a++x++ [92]++ [c] by simp];exact t7,by rw [k7 l hl,k6 l hl,aw],by omega,fun k hk2 hne=>by rw [k7 k hk2,k6 k hk2,ah hne,o5 k hk2 hne],by rw [hr2,q1];simp,by rw [hr2,q2];simp,by rw [hr2,q3];simp;omega⟩;clear ih;simp [f0,f4,f5,hu,e3,e4,hpk,hnx,e5,hpk2,hnx2,e6,e7];refine hfin _ ?_ ?_ ?_
     all_goals simp [f0,f4,f5]
 obtain⟨⟨r1,r2⟩,e,h1,h2⟩:=key;simp only at h1 h2;subst h1;rcases cm (.tuple #[str (Tg.Mi.coll (s.drop (i+1))).1,str (34::(Tg.Mi.coll (s.drop (i+1))).2.1)]) H r2 with e2|⟨e2,_,hle⟩
 ·exact⟨r2,by rw [e,e2],h2⟩
 ·exact⟨H,by rw [e,e2],⟨by rw [<-hle.2 l hl];exact h2.get,Nat.le_refl _,fun _ _ _=>rfl⟩⟩
end
end Go.Proofs.YtbeoilidocfofaaGreatDoor.Mi
namespace Tg.Mi
def white (b:UInt8):Bool:=decide ((b.toNat:Int)=9)||decide ((b.toNat:Int)=10)||decide ((b.toNat:Int)=13)||decide ((b.toNat:Int)=32)
def back (f:UInt8->Bool):List UInt8->List UInt8
 | []=> []
 |b::r=>if back f r= []/\f b=true then []else b::back f r
theorem back_snoc (f:UInt8->Bool) (b:UInt8): ∀s:List UInt8,back f (s++ [b])=if f b=true then back f s else s++ [b]
 | []=>by by_cases h:f b=true<;>simp [back,h]
 |a::s=>by
  have ih:=back_snoc f b s;rw [List.cons_append];unfold back;rw [ih];by_cases h:f b=true
  ·simp [h]
  ·simp [h]
end Tg.Mi
namespace Go.Proofs.YtbeoilidocfofaaGreatDoor.Mi
open Go.Lg Go.Tg
section
variable {H H':LH} {N b l i:Nat} {s:List UInt8} {v:Value}
theorem OutC.trunc {j:Nat} {u:Value} {H':LH} (h:OutC H l s j H') (hl:l<H.n): ∃H2,Lg.trunc H (u,H')=(u,H2)/\OutC H l s j H2:=by
 rcases cm u H H' with e2|⟨e2,_,hle⟩
 ·exact⟨H',e2,h⟩
 ·exact⟨H,e2,⟨by rw [<-hle.2 l hl];exact h.get,Nat.le_refl _,fun _ _ _=>rfl⟩⟩
theorem uG {x:Bool} (hk:H.get l=some (cu s i)) (hl:l<H.n) (hi:i<s.length) (hs:s.length<=100000) (hq:s[i]=34):
  ∃H',LC Tryz.prog EJ 304 [ptr l 0,.bool x] H=some (str (if x=true then(Tg.Mi.coll (s.drop (i+1))).1 else 34::(Tg.Mi.coll (s.drop (i+1))).2.1),H')/\OutC H l s (i+1+(Tg.Mi.coll (s.drop (i+1))).2.2) H':=by
 have key: ∃r,LC Tryz.prog EJ 304 [ptr l 0,.bool x] H=some (Lg.trunc H r)/\r.1=str (if x=true then(Tg.Mi.coll (s.drop (i+1))).1 else 34::(Tg.Mi.coll (s.drop (i+1))).2.1)/\OutC H l s (i+1+(Tg.Mi.coll (s.drop (i+1))).2.2) r.2:=by
  refine aD (P:=Tryz.prog) (E:=EJ) (f:=304) rfl Tryz.func304 rfl (Nat.le_of_ble_eq_true rfl) (by decide) (by kernel_rfl) ?_;obtain⟨H1,e1,o1⟩:=nq hk hl hi hs hq;cases x
  ·simp [e1];exact o1
  ·simp [e1];exact o1
 obtain⟨⟨u,H1⟩,e,h1,h2⟩:=key;simp only at h1 h2;subst h1;obtain⟨H2,e2,o2⟩:=h2.trunc hl (u:=str (if x=true then(Tg.Mi.coll (s.drop (i+1))).1 else 34::(Tg.Mi.coll (s.drop (i+1))).2.1));exact⟨H2,by rw [e,e2],o2⟩
theorem qk {b:UInt8} :LC Tryz.prog EJ 144 [.int .u8 b.toNat] H=some (.bool (Tg.Mi.white b),H):=by
 have h1: ∀H:LH,LC Tryz.prog EJ 198 [.int .u8 b.toNat] H=some (.bool (Tg.Mi.white b),H):=fun H=>by
  refine ag rfl Tryz.func198 rfl (Nat.le_of_ble_eq_true rfl) (by decide) (by kernel_rfl) rfl ?_;unfold Tg.Mi.white;by_cases a1:(b.toNat:Int)=9
  ·simp [a1]
  ·by_cases a2:(b.toNat:Int)=10
   ·simp [a2]
   ·by_cases a3:(b.toNat:Int)=13
    ·simp [a3]
    ·have a1:=eq_false a1;have a2:=eq_false a2;have a3:=eq_false a3;simp [a1,a2,a3]
 refine ag rfl Tryz.func144 rfl (Nat.le_of_ble_eq_true rfl) (by decide) (by kernel_rfl) rfl ?_;simp [h1]
theorem qo (hs:s.length<=1000000):LC Tryz.prog EJ 251 [str s] H=some (str (Tg.Mi.back Tg.Mi.white s),H):=by
 refine ag rfl Tryz.func251 rfl (Nat.le_of_ble_eq_true rfl) (by decide) (by kernel_rfl) rfl ?_;simp;obtain⟨R,hR⟩: ∃R,R=Tg.Mi.back Tg.Mi.white s:=⟨_,rfl⟩
 rw [<-hR];refine aK (fun(k:Nat) fr' H'=> ∃j:Nat,fr' 0=str s/\fr' 3=.int .i64 j/\j+k=s.length/\Tg.Mi.back Tg.Mi.white (s.take j)=R/\H=H') (fun k=>s.length-k) 0 ⟨s.length,by simp,by simp,by omega,by rw [List.take_length];exact hR.symm,rfl⟩ ?_;rintro k fr' H' ⟨j,f0,f3,hj,hq,rfl⟩ ih;rcases Nat.eq_zero_or_pos j with h0|h0
 ·subst h0;simp [Tg.Mi.back]at hq;subst hq;simp [f0,f3]
 ·obtain⟨m,rfl⟩: ∃m,j=m+1:=⟨j-1,by omega⟩
  have hlt:m<s.length:=by omega
  have q0:=eq_true (show(0:Int)<(m:Int)+1 by omega);have hw:IntKind.i64.wrap ((m:Int)+1-1)=(m:Int):=by rw [wrapI (by omega) (by omega)];omega
  have hw2:IntKind.i64.wrap (m:Int)=(m:Int):=wrapI (by omega) (by omega);have hat:at_ s (m:Int)=s[m]:=dw hlt;have ql:=eq_true (show(m:Int)<(s.length:Int) by omega);have ql2:=eq_true (show(m:Int)+1<=(s.length:Int) by omega);rw [List.take_succ_eq_append_getElem hlt,Tg.Mi.back_snoc]at hq;have hwh:=fun H:LH=>qk (H:=H) (b:=s[m]);cases hb:Tg.Mi.white s[m]with
  |true=>
   rw [hb]at hq hwh;simp only [if_true]at hq;simp [f0,f3,q0,hw,hw2,hat,ql,hwh];refine ih (k+1) _ _ (by omega) ⟨m,?_,?_,by omega,hq,rfl⟩
   all_goals simp [f0,hw,hw2]
  |false=>
   rw [hb]at hq hwh;simp only [Bool.false_eq_true,if_false]at hq;have ht:s.take (m+1)=R:=by rw [List.take_succ_eq_append_getElem hlt];exact hq
   have ht2:s.take ((m:Int)+1).toNat=R:=by rw [show((m:Int)+1).toNat=m+1 by omega];exact ht
   have qn:=eq_true (show(0:Int)<=(m:Int)+1 by omega);simp [f0,f3,q0,hw,hw2,hat,ql,ql2,qn,hwh,ht,ht2]
end
section
variable {H H':LH} {s t:List UInt8} {l i n:Nat}
theorem Fm {a b:List UInt8} (h:Lib.hasPrefix a b=true):b.length<=a.length:=by
 rw [Tg.Un.pre_eq,Tg.Un.pre_take]at h;have:=congrArg List.length (of_decide_eq_true h);rw [List.length_take]at this;omega
theorem BC (hk:H.get l=some (cu s i)) (hl:l<H.n) (hi:i<s.length) (hs:s.length<=1000000):R Tryz.prog cC (.call 202 [ptr l 0,.int .i64 1] H (.ret (str [s[i]])) (H.set l (cu s (i+1)))):=by
 have h1:=dZ hk (by omega);rw [List.drop_eq_getElem_cons hi]at h1;have hlen:(s[i]::s.drop (i+1)).length=s.length-i:=by rw [<-List.drop_eq_getElem_cons hi,List.length_drop]
 have q:=eq_true (show(1:Int)<=((s[i]::s.drop (i+1)).length:Int) by omega);have hw:IntKind.i64.wrap ((i:Int)+1)=((i+1:Nat):Int):=by rw [wrapI (by omega) (by omega)];omega
 have htk:(s[i]::s.drop (i+1)).take 1= [s[i]]:=rfl;generalize s[i]=b at*;generalize hx:b::s.drop (i+1)=x at*;refine cH Tryz.func202 rfl (Nat.le_of_ble_eq_true rfl) (by decide) (by kernel_rfl) ?_;have hC:=fun(x y:Int)=>fN (H:=H) (x:=x) (y:=y);simp [h1];refine ai (g:=145) (first:=#[]) (caps:=#[]) (H1:=H) rfl rfl rfl (by simp) (by simpa using hC 0 8) rfl ?_;simp [hk];refine ai (g:=145) (first:=#[]) (caps:=#[]) (H1:=H) rfl rfl rfl (by simp) (by simpa using hC i 9) rfl ?_;simp [hk,q];refine ai (g:=145) (first:=#[]) (caps:=#[]) (H1:=H) rfl rfl rfl (by simp) (by simpa using hC i 8) rfl ?_;simp [hk,q,hw,htk]
 try rfl
theorem xQ (hk:H.get l=some (cu s i)) (hi:i=s.length):R Tryz.prog cC (.call 202 [ptr l 0,.int .i64 1] H (.pan (.agg #[.int .i64 i,.int .i64 8])) H):=by
 have h1:=dZ hk (by omega);rw [List.drop_of_length_le (by omega)]at h1;refine cH Tryz.func202 rfl (Nat.le_of_ble_eq_true rfl) (by decide) (by kernel_rfl) ?_;have hC:=fun(x y:Int)=>fN (H:=H) (x:=x) (y:=y);have hB:=ib (H:=H) (x:=i) (y:=8) (by decide);simp [h1];refine ai (g:=145) (first:=#[]) (caps:=#[]) (H1:=H) rfl rfl rfl (by simp) (by simpa using hC 0 8) rfl ?_;simp [hk];refine ai (g:=145) (first:=#[]) (caps:=#[]) (H1:=H) rfl rfl rfl (by simp) (by simpa using hC i 9) rfl ?_;simp [hk];refine au (g:=145) (first:=#[]) (caps:=#[]) (H1:=H) rfl rfl rfl (by simp) (by simpa using hB) ?_;simp
theorem sE (hk:H.get l=some (cu s i)) (hl:l<H.n) (hi:i<s.length) (hs:s.length<=1000000):R Tryz.prog cC (.call 148 [ptr l 0] H (.ret (.int .u8 s[i].toNat)) (H.set l (cu s (i+1)))):=by
 have h1:=BC hk hl hi hs;generalize s[i]=b at*;have hat:at_ [b] 0=b:=rfl;refine cH Tryz.func148 rfl (Nat.le_of_ble_eq_true rfl) (by decide) (by kernel_rfl) ?_;simp;refine ai (g:=202) (first:=#[]) (caps:=#[]) (H1:=H.set l (cu s (i+1))) rfl rfl rfl (by simp) (by simpa using h1) rfl ?_;simp [hat]
theorem oO (hk:H.get l=some (cu s i)) (hi:i=s.length):R Tryz.prog cC (.call 148 [ptr l 0] H (.pan (.agg #[.int .i64 i,.int .i64 8])) H):=by
 have h1:=xQ hk hi;refine cH Tryz.func148 rfl (Nat.le_of_ble_eq_true rfl) (by decide) (by kernel_rfl) ?_;simp;refine au (g:=202) (first:=#[]) (caps:=#[]) (H1:=H) rfl rfl rfl (by simp) (by simpa using h1) ?_;simp
theorem BD {x:Int} :R Tryz.prog cC (.call 149 [.int .i64 x,.int .i64 2] H (.pan (.agg #[.int .i64 x,.int .i64 2])) H):=by
 have ht:=vL (H:=H) (x:=x) (y:=2);rw [if_neg (by decide)]at ht;refine cH Tryz.func149 rfl (Nat.le_of_ble_eq_true rfl) (by decide) (by kernel_rfl) ?_;simp;refine au (g:=199) (first:=#[]) (caps:=#[]) (H1:=H) rfl rfl rfl (by simp) (by simpa using ht) ?_;simp
def OC (f:FuncId) (args:List Value) (H:LH) (l:Nat) (s:List UInt8):Prop:= ∃r j,R Tryz.prog cC (.call f args H r (H.set l (cu s j)))/\j<=s.length/\(r=.ret (.tuple #[])\/ ∃x y:Int,r=.pan (.agg #[.int .i64 x,.int .i64 y]))
theorem qv (hk:H.get l=some (cu s i)) (hl:l<H.n) (hi:i<=s.length) (hs:s.length<=1000000) (ht:t.length<=100):OC 101 [ptr l 0,str t] H l s:=by
 have h1:=fO (g:=144) (p:=Tg.Mi.white) (fun H b=>qk) hk hl hi hs;have hle:=Tg.Mi.while_le Tg.Mi.white (s.drop i);have hd:(s.drop i).length=s.length-i:=List.length_drop;generalize (s.drop i).take (Tg.Mi.while_ Tg.Mi.white (s.drop i))=w at*;have hj:i+Tg.Mi.while_ Tg.Mi.white (s.drop i)<=s.length:=by omega
 generalize i+Tg.Mi.while_ Tg.Mi.white (s.drop i)=j at*;have hl2:l<(H.set l (cu s j)).n:=hl;have h2:=fq (H:=H.set l (cu s j)) (t:=t) aw hl2 hj hs ht;cases hp:Lib.hasPrefix (s.drop j) t with
 |true=>
  rw [hp]at h2;simp only [if_true,set_set]at h2;have h3:=Fm hp;rw [List.length_drop]at h3;have hj2:j+t.length<=s.length:=by omega
  generalize j+t.length=k at*;have h4:=np (H:=H.set l (cu s k)) (l:=l) (s:=s) (i:=k) aw;refine⟨_,k,cH (r:=.ret (.tuple #[])) Tryz.func101 rfl (Nat.le_of_ble_eq_true rfl) (by decide) (by kernel_rfl) ?_,hj2,.inl rfl⟩;have hC:=fun(x y:Int)=>fN (H:=H.set l (cu s k)) (x:=x) (y:=y);simp [h1,h2,h4];refine ai (g:=145) (first:=#[]) (caps:=#[]) (H1:=H.set l (cu s k)) rfl rfl rfl (by simp) (by simpa using hC k 2) rfl ?_;simp
 |false=>
  rw [hp]at h2;simp only [Bool.false_eq_true,if_false]at h2;have h4:=np (H:=H.set l (cu s j)) (l:=l) (s:=s) (i:=j) aw;refine⟨_,j,cH (r:=.pan (.agg #[.int .i64 j,.int .i64 2])) Tryz.func101 rfl (Nat.le_of_ble_eq_true rfl) (by decide) (by kernel_rfl) ?_,hj,.inr ⟨_,_,rfl⟩⟩;have hB:=ib (H:=H.set l (cu s j)) (x:=j) (y:=2) (by decide);simp [h1,h2,h4];refine au (g:=145) (first:=#[]) (caps:=#[]) (H1:=H.set l (cu s j)) rfl rfl rfl (by simp) (by simpa using hB) ?_;simp
end
section
variable {H H':LH} {s t:List UInt8} {l i n p:Nat}
theorem Fo (hk:H.get l=some (cu s i)) (hl:l<H.n) (hi:i<=s.length) (hs:s.length<=1000000):OC 102 [ptr l 0] H l s:=by
 obtain⟨r0,j0,e0,hj0,hr0⟩:=qv (t:= [34]) hk hl hi hs (by decide)
 have key: ∃r H',R Tryz.prog cC (.call 102 [ptr l 0] H r H')/\ ∃j,j<=s.length/\H'=H.set l (cu s j)/\(r=.ret (.tuple #[])\/ ∃x y:Int,r=.pan (.agg #[.int .i64 x,.int .i64 y])):=by
  refine fL Tryz.func102 rfl (Nat.le_of_ble_eq_true rfl) (by decide) (by kernel_rfl) ?_;simp;rcases hr0 with rfl|⟨x,y,rfl⟩
  ·refine ai (g:=101) (first:=#[]) (caps:=#[]) (H1:=H.set l (cu s j0)) rfl rfl rfl (by simp) (by simpa using e0) rfl ?_;simp;refine kG (fun(i:Nat) fr' H' p'=>fr' 0=ptr l 0/\i<=s.length/\H'=H.set l (cu s i)/\p'=none) (fun i=>s.length-i) j0 ⟨by simp,hj0,rfl,rfl⟩ ?_;rintro i fr' H' p' ⟨g0,hi,rfl,rfl⟩ ih;have hl2:l<(H.set l (cu s i)).n:=hl;have h1:=dK (H:=H.set l (cu s i)) (t:= [34,92,13,10]) aw hl2 hi hs;have hle:=Tg.Mi.until_le [34,92,13,10] (s.drop i);rw [List.length_drop]at hle;have hj:i+Tg.Mi.until_ [34,92,13,10] (s.drop i)<=s.length:=by omega
   have hij:i<=i+Tg.Mi.until_ [34,92,13,10] (s.drop i):=by omega
   rw [set_set]at h1;generalize (s.drop i).take (Tg.Mi.until_ [34,92,13,10] (s.drop i))=w at*;generalize i+Tg.Mi.until_ [34,92,13,10] (s.drop i)=j at*;have hl3:l<(H.set l (cu s j)).n:=hl;by_cases hlt:j<s.length
   ·have h2:=sE (H:=H.set l (cu s j)) aw hl3 hlt hs;rw [set_set]at h2;generalize s[j]=b at*;simp [g0,h1];refine ai (g:=148) (first:=#[]) (caps:=#[]) (H1:=H.set l (cu s (j+1))) rfl rfl rfl (by simp) (by simpa [g0]using h2) rfl ?_;by_cases b1:(b.toNat:Int)=34
    ·simp [g0,b1];exact⟨j+1,by omega,rfl⟩
    ·have b1:=eq_false b1;by_cases b2:(b.toNat:Int)=92
     ·simp [g0,b2];have hl4:l<(H.set l (cu s (j+1))).n:=hl;by_cases hlt2:j+1<s.length
      ·have h3:=sE (H:=H.set l (cu s (j+1))) aw hl4 hlt2 hs;rw [set_set]at h3;refine ai (g:=148) (first:=#[]) (caps:=#[]) (H1:=H.set l (cu s (j+1+1))) rfl rfl rfl (by simp) (by simpa [g0]using h3) rfl ?_;simp [g0];exact ih (j+1+1) _ _ _ (by omega) ⟨by simp [g0],by omega,rfl,rfl⟩
      ·have h3:=oO (H:=H.set l (cu s (j+1))) (l:=l) (s:=s) (i:=j+1) aw (by omega);refine au (g:=148) (first:=#[]) (caps:=#[]) (H1:=H.set l (cu s (j+1))) rfl rfl rfl (by simp) (by simpa [g0]using h3) ?_;simp;exact⟨j+1,by omega,rfl⟩
     ·have b2:=eq_false b2;have h4:=np (H:=H.set l (cu s (j+1))) (l:=l) (s:=s) (i:=j+1) aw;have h5:=BD (H:=H.set l (cu s (j+1))) (x:=((j+1:Nat):Int));generalize hJ:((j+1:Nat):Int)=J at*;simp [g0,b1,b2,h4];refine au (g:=149) (first:=#[]) (caps:=#[]) (H1:=H.set l (cu s (j+1))) rfl rfl rfl (by simp) (by simpa using h5) ?_;simp;exact⟨j+1,by omega,rfl⟩
   ·have h2:=oO (H:=H.set l (cu s j)) (l:=l) (s:=s) (i:=j) aw (by omega);simp [g0,h1];refine au (g:=148) (first:=#[]) (caps:=#[]) (H1:=H.set l (cu s j)) rfl rfl rfl (by simp) (by simpa [g0]using h2) ?_;simp;exact⟨j,by omega,rfl⟩
  ·refine au (g:=101) (first:=#[]) (caps:=#[]) (H1:=H.set l (cu s j0)) rfl rfl rfl (by simp) (by simpa using e0) ?_;simp;exact⟨j0,hj0,rfl⟩
 obtain⟨r,H',e,j,hj,rfl,hr⟩:=key;exact⟨r,j,e,hj,hr⟩
theorem Fp (hg:H.get p=some ⟨[str s],9,true⟩) (hp:p<H.n) (hs:s.length<=1000000): ∃r H',R Tryz.prog cC (.call 99 [ptr p 0] H r H')/\H.le H'/\((∃u,r=.ret u)\/ ∃x y:Int,r=.pan (.agg #[.int .i64 x,.int .i64 y])):=by
 refine fL Tryz.func99 rfl (Nat.le_of_ble_eq_true rfl) (by decide) (by kernel_rfl) (Q:=fun r H'=>H.le H'/\((∃u,r=.ret u)\/ ∃x y:Int,r=.pan (.agg #[.int .i64 x,.int .i64 y]))) ?_;have h0:=nn (H:=H) (s:=s);obtain⟨H0,hH0⟩: ∃H0,H0=H.new (cu s 0):=⟨_,rfl⟩
 have k0:H0.get H.n=some (cu s 0):=by rw [hH0,ak]
 have l0:H.n<H0.n:=by rw [hH0];exact Nat.lt_succ_self _
 have le0:H.le H0:=by rw [hH0];exact le_refl.new
 rw [<-hH0]at h0;clear hH0;obtain⟨r1,j1,e1,hj1,hr1⟩:=qv (t:= [123]) k0 l0 (Nat.zero_le _) hs (by decide);have le1:H.le (H0.set H.n (cu s j1)):=le0.set (Nat.le_refl _);simp [hg,h0];rcases hr1 with rfl|⟨x,y,rfl⟩
 ·refine ai (g:=101) (first:=#[]) (caps:=#[]) (H1:=H0.set H.n (cu s j1)) rfl rfl rfl (by simp) (by simpa using e1) rfl ?_;obtain⟨r2,j2,e2,hj2,hr2⟩:=Fo (H:=H0.set H.n (cu s j1)) aw l0 hj1 hs;rw [set_set]at e2;simp;rcases hr2 with rfl|⟨x,y,rfl⟩
  ·refine ai (g:=102) (first:=#[]) (caps:=#[]) (H1:=H0.set H.n (cu s j2)) rfl rfl rfl (by simp) (by simpa using e2) rfl ?_;obtain⟨r3,j3,e3,hj3,hr3⟩:=qv (t:= [58]) (H:=H0.set H.n (cu s j2)) aw l0 hj2 hs (by decide);rw [set_set]at e3;simp;rcases hr3 with rfl|⟨x,y,rfl⟩
   ·refine ai (g:=101) (first:=#[]) (caps:=#[]) (H1:=H0.set H.n (cu s j3)) rfl rfl rfl (by simp) (by simpa using e3) rfl ?_;simp
    first|exact le0|exact le0.set (Nat.le_refl _)
   ·refine au (g:=101) (first:=#[]) (caps:=#[]) (H1:=H0.set H.n (cu s j3)) rfl rfl rfl (by simp) (by simpa using e3) ?_;simp
    first|exact le0|exact le0.set (Nat.le_refl _)
  ·refine au (g:=102) (first:=#[]) (caps:=#[]) (H1:=H0.set H.n (cu s j2)) rfl rfl rfl (by simp) (by simpa using e2) ?_;simp
   first|exact le0|exact le0.set (Nat.le_refl _)
 ·refine au (g:=101) (first:=#[]) (caps:=#[]) (H1:=H0.set H.n (cu s j1)) rfl rfl rfl (by simp) (by simpa using e1) ?_;simp
  first|exact le0|exact le1
theorem BE (hg:H.get p=some ⟨[str s],9,true⟩) (hp:p<H.n) (hs:s.length<=1000000): ∃r H',R Tryz.prog cC (.call 98 [.func (.func 99) #[] #[ptr p 0]] H r H')/\ ∃(x y:Int) (b:Bool),r=.ret (.tuple #[.agg #[.int .i64 x,.int .i64 y],.bool b])/\H.le H':=by
 refine fL Tryz.func98 rfl (Nat.le_of_ble_eq_true rfl) (by decide) (by kernel_rfl) ?_;obtain⟨H0,hH0⟩: ∃H0,H0=H.new ⟨[.int .i64 0,.int .i64 0],127,true⟩:=⟨_,rfl⟩
 have g0:H0.get p=some ⟨[str s],9,true⟩:=by rw [hH0,aa (by omega)];exact hg
 have k0:H0.get H.n=some ⟨[.int .i64 0,.int .i64 0],127,true⟩:=by rw [hH0,ak]
 have n0:H0.n=H.n+1:=by rw [hH0];rfl
 have le0:H.le H0:=by rw [hH0];exact le_refl.new
 obtain⟨r1,H1,e1,le1,hr1⟩:=Fp g0 (by omega) hs;have k1:=(le1.2 H.n (by omega)).trans k0;have n1:=le1.1;have hle:=le0.trans le1;rcases hr1 with⟨u,rfl⟩|⟨x,y,rfl⟩
 ·have hcat:R Tryz.prog cC (.call 142 [.func (.func 99) #[] #[ptr p 0]] H0 (.ret (.tuple #[dR,.bool false])) H1):=R.cat (E:=cC) rfl (by simpa using e1);simp [<-hH0];refine ai (g:=142) (first:=#[]) (caps:=#[]) (H1:=H1) rfl rfl rfl (by simp) (by simpa using hcat) rfl ?_;simp [dR,k1]
  first|exact hle.set (by omega)|exact hle
 ·have hcat:R Tryz.prog cC (.call 142 [.func (.func 99) #[] #[ptr p 0]] H0 (.ret (.tuple #[.agg #[.int .i64 x,.int .i64 y],.bool true])) H1):=R.catp (E:=cC) rfl (by simpa using e1);simp [<-hH0];refine ai (g:=142) (first:=#[]) (caps:=#[]) (H1:=H1) rfl rfl rfl (by simp) (by simpa using hcat) rfl ?_;simp [k1]
  first|exact hle.set (by omega)|exact hle
theorem isJson_r (hs:s.length<=1000000): ∃b:Bool,R Tryz.prog cC (.call 70 [str s] H (.ret (.bool b)) H):=by
 have key: ∃r H',R Tryz.prog cC (.call 70 [str s] H r H')/\ ∃b:Bool,r=.ret (.bool b)/\H.le H':=by
  refine fL Tryz.func70 rfl (Nat.le_of_ble_eq_true rfl) (by decide) (by kernel_rfl) ?_;obtain⟨r1,H1,e1,x,y,b,rfl,le1⟩:=BE (H:=H.new ⟨[str s],9,true⟩) (p:=H.n) ak (by rw [aL];omega) hs;have hle:=le_refl.new.trans le1;simp;refine ai (g:=98) (first:=#[]) (caps:=#[]) (H1:=H1) rfl rfl rfl (by simp) (by simpa using e1) rfl ?_;simp
  first|exact hle|exact hle.new
 obtain⟨r,H',e,b,rfl,hle⟩:=key;exact⟨b,.trunc e rfl hle⟩
end
end Go.Proofs.YtbeoilidocfofaaGreatDoor.Mi
namespace Go.Proofs.YtbeoilidocfofaaGreatDoor
open Go.Lg Go.Tg
section
variable {H:LH} {b:UInt8} {s p:List UInt8}
theorem sF:LC Tryz.prog EJ 235 [.int .u8 b.toNat] H=some (.bool (Tg.Ur.isD b),H):=by
 refine ag rfl Tryz.func235 rfl (Nat.le_of_ble_eq_true rfl) (by decide) (by kernel_rfl) rfl ?_;unfold Tg.Ur.isD;by_cases h1:(48:Int)<=b.toNat<;>by_cases h2:(b.toNat:Int)<=57<;>simp [h1,h2]
theorem nr:LC Tryz.prog EJ 187 [.int .u8 b.toNat] H=some (.bool (Tg.Ur.isD b),H):=by
 refine ag rfl Tryz.func187 rfl (Nat.le_of_ble_eq_true rfl) (by decide) (by kernel_rfl) rfl ?_;simp [sF]
theorem OD {n:Int} :IntKind.u8.wrap n=n%256:=IntKind.wrap_u8 _
theorem nu:LC Tryz.prog EJ 230 [.int .u8 b.toNat] H=some (.bool (decide ((65:Int)<=b.toNat)&&decide ((b.toNat:Int)<=90)),H):=by
 refine ag rfl Tryz.func230 rfl (Nat.le_of_ble_eq_true rfl) (by decide) (by kernel_rfl) rfl ?_;by_cases h1:(65:Int)<=b.toNat<;>by_cases h2:(b.toNat:Int)<=90<;>simp [h1,h2]
theorem BF:LC Tryz.prog EJ 181 [.int .u8 b.toNat] H=some (.int .u8 (Tg.Lo.low b).toNat,H):=by
 refine ag rfl Tryz.func181 rfl (Nat.le_of_ble_eq_true rfl) (by decide) (by kernel_rfl) rfl ?_;unfold Tg.Lo.low;have hlt:=b.toNat_lt;by_cases h1:(65:Int)<=b.toNat<;>by_cases h2:(b.toNat:Int)<=90
 ·have e:(b+32).toNat=b.toNat+32:=by rw [UInt8.toNat_add];show(b.toNat+32)%256=_;omega
  have hw:IntKind.u8.wrap ((b.toNat:Int)+32)=((b+32).toNat:Int):=by rw [OD,e];omega
  simp [nu,h1,h2,hw]
 all_goals simp [nu,h1,h2]
theorem KJ {a b:UInt8} :(((Tg.Lo.low a).toNat:Int)=((Tg.Lo.low b).toNat:Int))=(Tg.Lo.low a=Tg.Lo.low b):=by
 apply propext;constructor
 ·intro h;exact UInt8.toNat_inj.1 (by omega)
 ·intro h;rw [h]
theorem Fq (hs:s.length<=9223372036854775806):LC Tryz.prog EJ 118 [str s,str p] H=some (.bool (decide (Tg.Lo.lower s=Tg.Lo.lower p)),H):=by
 refine ag rfl Tryz.func118 rfl (Nat.le_of_ble_eq_true rfl) (by decide) (by kernel_rfl) rfl ?_;by_cases hl:s.length=p.length
 ·have q1:((s.length:Int)=(p.length:Int))=True:=eq_true (by omega);refine A6 2 (fun fr' H'=>fr' 0=str s/\fr' 1=str p/\H'=H) ?_ (fun K hK=>?_) rfl
  ·rintro fr' H' ⟨h0,h1,rfl⟩;simp [h0,h1];refine aK (fun(i:Nat) fr2 H2=>fr2 0=str s/\fr2 1=str p/\fr2 12=.int .i64 s.length/\fr2 13=.int .i64 i/\i<=s.length/\Tg.Lo.lower (s.take i)=Tg.Lo.lower (p.take i)/\H2=H') (fun i=>s.length-i) 0 ⟨by simp [h0],by simp [h1],by simp,by simp,by simp,by simp,rfl⟩ ?_;rintro i fr2 H2 ⟨g0,g1,g12,g13,hi,he,rfl⟩ ih;by_cases hlt:i<s.length
   ·have hlp:i<p.length:=by omega
    have a1:=dw hlt;have a2:=dw hlp;have hw:IntKind.i64.wrap ((i:Int)+1)=((i+1:Nat):Int):=by rw [wrapI (by omega) (by omega)];omega
    have t1:s.take (i+1)=s.take i++ [s[i]]:=List.take_succ_eq_append_getElem hlt;have t2:p.take (i+1)=p.take i++ [p[i]]:=List.take_succ_eq_append_getElem hlp;have hle:=@KJ s[i] p[i];by_cases hc:Tg.Lo.low s[i]=Tg.Lo.low p[i]
    ·have qc:=eq_true hc;rw [qc]at hle
     have hn:Tg.Lo.lower (s.take (i+1))=Tg.Lo.lower (p.take (i+1)):=by
      rw [t1,t2];unfold Tg.Lo.lower at he⊢;rw [List.map_append,List.map_append,he];simp [hc]
     have hc':=congrArg UInt8.toNat hc;generalize hi1:i+1=i1 at*;simp [g0,g1,g12,g13,hlt,hlp,a1,a2,BF,hle,hc,hw];exact ih i1 _ _ (by omega) ⟨by simp [g0],by simp [g1],by simp [g12],by simp,by omega,hn,rfl⟩
    ·have qc:=eq_false hc;rw [qc]at hle
     have hne: ¬Tg.Lo.lower s=Tg.Lo.lower p:=by
      intro h;have:=congrArg (fun l=>l[i]?) h;simp [Tg.Lo.lower,hlt,hlp]at this;exact hc this
     simp [g0,g1,g12,g13,hlt,hlp,a1,a2,BF,hle,hc,hne]
   ·have e1:s.take i=s:=List.take_of_length_le (by omega);have e2:p.take i=p:=List.take_of_length_le (by omega);rw [e1,e2]at he;simp [g0,g1,g12,g13,hlt,he]
  ·simp [q1];exact hK _ _ ⟨by simp,by simp,rfl⟩
 ·have q1:((s.length:Int)=(p.length:Int))=False:=eq_false (by omega)
  have hne: ¬Tg.Lo.lower s=Tg.Lo.lower p:=by
   intro h;have:=congrArg List.length h;simp [Tg.Lo.lower]at this;exact hl this
  simp [q1,hne]
end
end Go.Proofs.YtbeoilidocfofaaGreatDoor
namespace Tg.Ur
end Tg.Ur
namespace Go.Proofs.YtbeoilidocfofaaGreatDoor
open Go.Lg Go.Tg
section
variable {H:LH} {b:UInt8} {s p:List UInt8}
theorem HX {q:UInt8->Bool} (s:List UInt8):(s.dropWhile q).length<=s.length:=(List.dropWhile_suffix q).length_le
end
end Go.Proofs.YtbeoilidocfofaaGreatDoor
namespace Tg.Ur
end Tg.Ur
namespace Go.Proofs.YtbeoilidocfofaaGreatDoor
open Go.Lg Go.Tg
section
variable {H:LH} {b:UInt8} {s p:List UInt8}
theorem Bld.new {N b:Nat} {l:List UInt8} {v:Value} {x:LB} (h:Bld N H b l v):Bld N (H.new x) b l v:=
 ⟨by obtain⟨p,hg,hp⟩:=h.get;exact⟨p,by rw [aa (by have:=h.lt;omega)];exact hg,hp⟩,h.row.keep (Nat.le_succ _) (fun k _ _ hk=>aa (by omega)),h.full,h.off,by rw [aL];have:=h.lt;omega,by rw [aL];have:=h.N;omega,h.nil⟩
theorem Bld.off_lt {N b k:Nat} {l:List UInt8} {v:Value} (h:Bld N H b l v) (hk:k<N):ay v k:=by
 intro n c e;rcases h.row.2 with⟨rfl,_⟩|⟨k',c',rest,rfl,g1,_⟩
 ·cases e
 ·injection e with e;injection e with e;injection e with e;omega
theorem Bld.first:Bld H.n (H.new ⟨[.pointer none,.slice none 0 0],180,true⟩) H.n [] (.slice none 0 0):=
 ⟨⟨_,ak,.inl rfl⟩,bA.nil,(by unfold Full;simp),(fun _ _ e=>by cases e),(by rw [aL];omega),(by rw [aL];omega),fun _=>rfl⟩
end
end Go.Proofs.YtbeoilidocfofaaGreatDoor
namespace Tg.Ur
open Go
end Tg.Ur
namespace Go.Proofs.YtbeoilidocfofaaGreatDoor
open Go.Lg Go.Tg
section
variable {H:LH} {b:UInt8} {s p:List UInt8}
theorem Fs {v:Value} {acc:List (List UInt8)} {N:Nat} {x:List UInt8} (h:bA N H 9 1 v acc.length (acc.map str)) (hN:N<=H.n) (hl:acc.length<=100000):
  ∃v' H2,eJ Tryz.prog 116 v (some (1,[str x])) (H.new ⟨[str x],9,true⟩)=some (v',H2)/\bA N H2 9 1 v' (acc++ [x]).length ((acc++ [x]).map str)/\N<=H2.n/\ ∀k,k<N->H2.get k=H.get k:=by
 have h2:bA N (H.new ⟨[str x],9,true⟩) 9 1 v acc.length (acc.map str):=h.keep (Nat.le_succ _) (fun k _ _ hk=>aa (by omega));obtain⟨v',H2,ha,hr,hk,_⟩:=h2.app (t:=116) (new:= [x].map str) (m:=1) Tryz.underlying116 (by kernel_rfl) (by simp) (by simp) (by unfold aH;omega) (by rw [aL];omega) (.inl (Nat.le_refl 1));refine⟨v',H2,ha,by rw [List.length_append,List.map_append];exact hr,Nat.le_trans (by rw [aL];omega) hk.le,fun k hkn=>?_⟩;rw [hk.get k (by rw [aL];omega) (h.off_lt hkn),aa (by omega)]
end
end Go.Proofs.YtbeoilidocfofaaGreatDoor
namespace Tg.Nu
def isD (b:UInt8):Bool:=decide (48<=(b.toNat:Int))&&decide ((b.toNat:Int)<=57)
def fx (b:UInt8):Bool:=decide (b=101)||decide (b=69)
def wh (st:Nat):Bool:=st==2||st==3||st==5||st==8
def nx (st:Nat) (b:UInt8):Nat:=
 if st=0\/st=1 then
  if b=45/\st=0 then 1 else if b=48 then 2 else if isD b then 3 else 9
 else if(st=4\/st=5)/\isD b then 5
 else if st=6\/st=7\/st=8 then
  if isD b then 8 else if st=6/\(b=43\/b=45)then 7 else 9
 else if st=3/\isD b then 3
 else if b=46/\(st=2\/st=3)then 4
 else if fx b/\wh st then 6 else 9
def en (st:Nat) (s:List UInt8):Nat:=s.foldl nx st
def acc (st:Nat) (s:List UInt8):Bool:=wh (en st s)
def hd:List UInt8->Bool
 | []=>false
 |c::_=>isD c
def OE (v:List UInt8):Bool:=hd v&&(v.dropWhile isD).isEmpty
def B6 (r:List UInt8):Bool:=
 match r with
 | []=>false
 |c::q=>if c=43\/c=45 then OE q else OE r
def B2 (u:List UInt8):Bool:=
 match u with
 | []=>true
 |c::r=>fx c&&B6 r
def B1 (v:List UInt8):Bool:=
 match v with
 | []=>true
 |c::r=>if c=46 then hd r&&B2 (r.dropWhile isD)else B2 v
theorem drop_take (u:List UInt8):u.drop (u.takeWhile isD).length=u.dropWhile isD:=by
 induction u with
 |nil=>rfl
 |cons b u ih=>
  rw [List.takeWhile_cons,List.dropWhile_cons];split
  ·simpa using ih
  ·rfl
end Tg.Nu
namespace Tg.Nu
open Go
theorem any_cons (b:UInt8) (l c:List UInt8):Lib.indexAny (b::l) c=if c.contains b then 0 else if Lib.indexAny l c== -1 then -1 else Lib.indexAny l c+1:=rfl
def BG (l:List UInt8):Prop:= ∀b∈l,isD b=true
def Uf:Option (UInt8×List UInt8×List UInt8)->List UInt8
 |none=> []
 |some (e,sg,ep)=>e::(sg++ep)
def Ug:Option (List UInt8)->List UInt8
 |none=> []
 |some f=>46::f
structure Num where
 neg:Bool
 ip:List UInt8
 f:Option (List UInt8)
 e:Option (UInt8×List UInt8×List UInt8)
def Uh:Option (UInt8×List UInt8×List UInt8)->Prop
 |none=>True
 |some (c,sg,ep)=>fx c=true/\(sg= []\/sg= [43]\/sg= [45])/\BG ep/\ep≠ []
def Ui:Option (List UInt8)->Prop
 |none=>True
 |some f=>BG f
structure Num.Ok (n:Num):Prop where
 ip:BG n.ip
 ip0:n.ip≠ []
 f:Ui n.f
 e:Uh n.e
def Num.head (n:Num):List UInt8:=n.ip++Ug n.f
def Num.body (n:Num):List UInt8:=n.head++Uf n.e
def Num.text (n:Num):List UInt8:=(if n.neg then [45]else [])++n.body
def dv (n:Nat) (l:List UInt8):Nat:=l.foldl (fun n b=>10*n+(b.toNat-48)) n
def nz (b:UInt8):Bool:=b==48
def lead (l:List UInt8):List UInt8:=l.dropWhile nz
def OF (l:List UInt8):List UInt8:=(l.reverse.dropWhile nz).reverse
def Num.fp (n:Num):List UInt8:=match n.f with|none=> []|some f=>f
def Num.all (n:Num):List UInt8:=lead (n.ip++n.fp)
def Num.short (n:Num):List UInt8:=OF n.all
def clamp (n lo hi:Int):Int:=if n<lo then lo else if hi<n then hi else n
theorem Num.Ok.cons {n:Num} (h:n.Ok): ∃c r,n.ip=c::r/\isD c=true:=by
 cases hip:n.ip with
 |nil=>exact absurd hip h.ip0
 |cons c r=>exact⟨c,r,rfl,h.ip c (by rw [hip];simp)⟩
theorem oP (n:Nat) (l r:List UInt8):dv n (l++r)=dv (dv n l) r:=by unfold dv;rw [List.foldl_append]
theorem Ft (l:List UInt8) {i:Nat} (h:i<l.length):dv 0 (l.take (i+1))=10*dv 0 (l.take i)+(l[i].toNat-48):=by
 rw [List.take_succ_eq_append_getElem h,oP];rfl
theorem OG (l:List UInt8): ∀n,n<=dv n l:=by
 induction l with
 |nil=>intro n;exact Nat.le_refl n
 |cons b l ih=>intro n;exact Nat.le_trans (by omega) (ih (10*n+(b.toNat-48)))
theorem Fu (l:List UInt8) (i:Nat):dv 0 (l.take i)<=dv 0 l:=by
 have:=oP 0 (l.take i) (l.drop i);rw [List.take_append_drop]at this;rw [this];exact OG _ _
def dC (l:List UInt8):Nat:=if dv 0 l<=9007199254740991 then dv 0 l else 9007199254740991
end Tg.Nu
namespace Tg.Nu
def cat (d l:List UInt8):List UInt8:=if d≠ []then d++l else lead l
end Tg.Nu
namespace Go.Proofs.YtbeoilidocfofaaGreatDoor
open Go.Lg Go.Tg
section
open Tg.Nu
variable {H:LH} {b:UInt8} {s t:List UInt8}
theorem ig:LC Tryz.prog EJ 187 [.int .u8 b.toNat] H=some (.bool (isD b),H):=nr
theorem BH (hs:s.length<=1048576):LC Tryz.prog EJ 263 [str s] H=some (.int .i64 ((s.takeWhile isD).length:Nat),H):=by
 refine ag rfl Tryz.func263 rfl (Nat.le_of_ble_eq_true rfl) (by decide) (by kernel_rfl) rfl ?_;simp;refine aK (fun(i:Nat) fr' H'=>fr' 0=str s/\fr' 3=.int .i64 i/\i<=s.length/\(s.takeWhile isD).length=i+((s.drop i).takeWhile isD).length/\H'=H) (fun i=>s.length-i) 0 (by simp) ?_;rintro i fr' H' ⟨h0,h3,hi,hr,rfl⟩ ih;by_cases hlt:i<s.length
 ·have hd:=List.drop_eq_getElem_cons hlt;rw [hd,List.takeWhile_cons]at hr;cases hc:isD s[i]with
  |true=>
   rw [hc,if_pos rfl,List.length_cons]at hr;have hw:IntKind.i64.wrap ((i:Int)+1)=((i+1:Nat):Int):=by rw [wrap64_in (by omega) (by omega)];omega
   simp [h0,h3,hlt,ig,dw hlt,hc,hw];exact ih (i+1) _ _ (by omega) ⟨by simp [h0],by simp,hlt,by omega,rfl⟩
  |false=>
   rw [hc,if_neg (by simp)]at hr;simp [h0,h3,hlt,ig,dw hlt,hc];simp at hr;omega
 ·rw [List.drop_eq_nil_of_le (by omega)]at hr;simp [h0,h3,hlt];simp at hr;omega
theorem Fv (hd:BG s) (hs:s.length<=1048576):LC Tryz.prog EJ 264 [str s] H=some (.tuple #[.int .i64 (dC s:Nat),.bool (decide (dv 0 s<=9007199254740991))],H):=by
 refine ag rfl Tryz.func264 rfl (Nat.le_of_ble_eq_true rfl) (by decide) (by kernel_rfl) rfl ?_;simp;refine aK (fun(i:Nat) fr' H'=>fr' 0=str s/\fr' 4=.int .i64 (dv 0 (s.take i):Nat)/\fr' 7=.int .i64 s.length/\fr' 8=.int .i64 i/\i<=s.length/\dv 0 (s.take i)<=9007199254740991/\H'=H) (fun i=>s.length-i) 0 (by simp [dv]) ?_;rintro i fr' H' ⟨h0,h4,h7,h8,hi,hm,rfl⟩ ih;by_cases hlt:i<s.length
 ·have hD:=hd s[i] (List.getElem_mem hlt);simp only [isD,Bool.and_eq_true,decide_eq_true_eq]at hD;have ht:=Ft s hlt;have hmono:=Fu s (i+1);have hw1:IntKind.i64.wrap ((dv 0 (s.take i):Int)*10)=(dv 0 (s.take i):Int)*10:=by rw [wrap64_in (by omega) (by omega)]
  have hw2:IntKind.u8.wrap ((s[i].toNat:Int)-48)=((s[i].toNat-48:Nat):Int):=by
   have:=s[i].toNat_lt;rw [show IntKind.u8.wrap ((s[i].toNat:Int)-48)=((s[i].toNat:Int)-48)%256 from IntKind.wrap_u8 _];omega
  have hw3:IntKind.i64.wrap ((s[i].toNat-48:Nat):Int)=((s[i].toNat-48:Nat):Int):=by rw [wrap64_in (by omega) (by omega)]
  have hw4:IntKind.i64.wrap ((dv 0 (s.take i):Int)*10+((s[i].toNat-48:Nat):Int))=((dv 0 (s.take (i+1)):Nat):Int):=by rw [wrap64_in (by omega) (by omega)];omega
  have hw:IntKind.i64.wrap ((i:Int)+1)=((i+1:Nat):Int):=by rw [wrap64_in (by omega) (by omega)];omega
  by_cases hbig:dv 0 (s.take (i+1))<=9007199254740991
  ·have f:=eq_false (show¬9007199254740991<((dv 0 (s.take (i+1)):Nat):Int) by omega);simp [h0,h4,h7,h8,hlt,dw hlt,hw1,hw2,hw3,hw4,hw,f];exact ih (i+1) _ _ (by omega) ⟨by simp [h0],by simp,by simp [h7],by simp,hlt,hbig,rfl⟩
  ·have f:=eq_true (show 9007199254740991<((dv 0 (s.take (i+1)):Nat):Int) by omega);have e1: ¬dv 0 s<=9007199254740991:=by omega
   have e2:dC s=9007199254740991:=by unfold dC;rw [if_neg e1]
   simp [h0,h4,h7,h8,hlt,dw hlt,hw1,hw2,hw3,hw4,hw,f,e1,e2]
 ·have e:s.take i=s:=List.take_of_length_le (by omega);rw [e]at hm h4;have e2:dC s=dv 0 s:=by unfold dC;rw [if_pos hm]
  simp [h0,h4,h7,h8,hlt,hm,e2]
theorem BI: ∀ {s:List UInt8},s.all isD=true->s.takeWhile isD=s
 | [],_=>rfl
 |b::r,h=>by
  simp only [List.all_cons,Bool.and_eq_true]at h;rw [List.takeWhile_cons,if_pos h.1,BI h.2]
theorem HY: ∀ {s:List UInt8},s.all isD=false->(s.takeWhile isD).length<s.length
 | [],h=>by simp at h
 |b::r,h=>by
  rw [List.takeWhile_cons];by_cases hb:isD b=true
  ·rw [if_pos hb];simp only [List.all_cons,hb,Bool.true_and]at h;have:=HY h;simp;omega
  ·rw [if_neg hb];simp
theorem xR (hs:s.length<=1048576):LC Tryz.prog EJ 189 [str s] H=some (.tuple #[.int .i64 (if s= []\/s.all isD=false then 0 else if 9007199254740991<dv 0 s then 0 else(dv 0 s:Nat)),.int .i64 (if s= []\/s.all isD=false then 2 else if 9007199254740991<dv 0 s then 9 else 0)],H):=by
 have key:LC Tryz.prog EJ 236 [str s] H=some (.tuple #[.int .i64 (if s= []\/s.all isD=false then 0 else if 9007199254740991<dv 0 s then 0 else(dv 0 s:Nat)),.int .i64 (if s= []\/s.all isD=false then 2 else if 9007199254740991<dv 0 s then 9 else 0)],H):=by
  refine ag rfl Tryz.func236 rfl (Nat.le_of_ble_eq_true rfl) (by decide) (by kernel_rfl) rfl ?_;have h1:=fun H:LH=>BH (H:=H) hs;by_cases h0:s= []
  ·subst h0;simp
  cases ha:s.all isD with
  |false=>
   have hlt:=HY ha;have q:=eq_true (show((s.takeWhile isD).length:Int)<(s.length:Int) by omega);rw [if_pos (.inr rfl),if_pos (.inr rfl)];generalize (s.takeWhile isD).length=n at*;simp [h0,h1,q]
  |true=>
   have e:=BI ha;have hd:BG s:=fun b hb=>List.all_eq_true.mp ha b hb;have h2:=fun H:LH=>Fv (H:=H) hd hs;rw [e]at h1;by_cases hbig:9007199254740991<dv 0 s
   ·have hn: ¬dv 0 s<=9007199254740991:=by omega
    rw [decide_eq_false hn]at h2;simp [h0,h1,h2,hbig]
   ·have hn:dv 0 s<=9007199254740991:=by omega
    have hC:dC s=dv 0 s:=by unfold dC;rw [if_pos hn]
    rw [decide_eq_true hn,hC]at h2;simp [h0,h1,h2,hbig]
 refine ag rfl Tryz.func189 rfl (Nat.le_of_ble_eq_true rfl) (by decide) (by kernel_rfl) rfl ?_;simp [key]
end
section
variable {H:LH} {b:UInt8} {s t:List UInt8}
end
end Go.Proofs.YtbeoilidocfofaaGreatDoor
namespace Tg.Ur
def OH (u:Url):List UInt8:=u.scheme++ [58,47,47]++u.host++(if u.port≠0 then 58::Go.Lib.itoa u.port else [])++u.path++u.query
def text (u:Url):List UInt8:=if good u then OH u else []
def port (u:Url):Int:=if own u.scheme=0\/u.port=0 then own u.scheme else u.port
def origin (u:Url):List UInt8:=if good u then u.scheme++ [58,47,47]++u.host++ [58]++Go.Lib.itoa (port u)else []
end Tg.Ur
namespace Go.Proofs.YtbeoilidocfofaaGreatDoor
open Go.Lg Go.Tg
section
variable {H:LH} {b:UInt8} {s t:List UInt8}
@[simp] theorem sG {P:Program} {t:TypeId} {cs:List Value} {i:Nat} {q:Nat×Nat×Bool} {v:Value} {ps:List (Nat×Value)} (hf:aq P t i=some q) (hn:q.2.1=1) (hv:aC v=true) (ho:q.1<cs.length):bG P t cs ((i,v)::ps)=bG P t (cs.set q.1 v) ps:=by
 obtain⟨o,n,g⟩:=q;exact aB hf hn hv ho
end
end Go.Proofs.YtbeoilidocfofaaGreatDoor
namespace Tg.Hd
open Go.Lg (str)
abbrev Hdr:=List UInt8×List UInt8
def white (b:UInt8):Bool:=([9,10,13,32]:List UInt8).contains b
def trimE (s:List UInt8):List UInt8:=(s.reverse.dropWhile white).reverse
def trim (s:List UInt8):List UInt8:=(trimE s).dropWhile white
def signs:List UInt8:= [33,35,36,37,38,39,42,43,45,46,94,95,124,126,96]
def isL (b:UInt8):Bool:=(decide ((97:Int)<=b.toNat)&&decide ((b.toNat:Int)<=122))||(decide ((65:Int)<=b.toNat)&&decide ((b.toNat:Int)<=90))
def isD (b:UInt8):Bool:=decide ((48:Int)<=b.toNat)&&decide ((b.toNat:Int)<=57)
def tok (b:UInt8):Bool:=isL b||isD b||signs.contains b
def free (of s:List UInt8):Bool:=s.all fun b=>!of.contains b
def KK (h:Hdr):Bool:=decide (h.1≠ [])&&h.1.all tok&&decide (trim h.2=h.2)&&free [0,13,10] h.2&&decide (h.2.length<=8192)
def good (l:List Hdr):Bool:=decide (l.length<=100)&&l.all KK
def cells (l:List Hdr):List Go.Value:=l.flatMap fun h=> [str h.1,str h.2]
theorem iP (h:Hdr) (l:List Hdr):cells (h::l)=str h.1::str h.2::cells l:=rfl
theorem cells_app (a b:List Hdr):cells (a++b)=cells a++cells b:=List.flatMap_append
theorem cells_len: ∀l:List Hdr,(cells l).length=l.length*2
 | []=>rfl
 |h::l=>by rw [iP];simp [cells_len l];omega
theorem cells_at: ∀ {l:List Hdr} {i:Nat} (h:i<l.length) (r:List Go.Value),((cells l++r).drop (i*2)).take 2= [str l[i].1,str l[i].2]/\(cells l++r)[i*2]?=some (str l[i].1)/\(cells l++r)[i*2+1]?=some (str l[i].2)
 | [],i,h,_=>by simp at h
 |x::l,0,h,r=>by rw [iP];exact⟨rfl,rfl,rfl⟩
 |x::l,i+1,h,r=>by
  have ih:=cells_at (l:=l) (i:=i) (by simpa using h) r;rw [iP,show(i+1)*2=i*2+2 by omega];exact ih
def stripR (t:List UInt8):List UInt8:=if t.getLast?=some 13 then t.dropLast else t
def upto (c:UInt8) (t:List UInt8):Nat:=(t.takeWhile fun b=>!(b==c)).length
def OI (t:List UInt8):Option Hdr:=
 if t.contains 58 then
  let h:Hdr:=(t.take (upto 58 t),trim (t.drop (upto 58 t+1)))
  if KK h then some h else none
 else none
def rows:List (List UInt8)->Nat->List Hdr->List Hdr×Int×Int
 | [],_,acc=>if 100<acc.length then([],0,6)else(acc,0,0)
 |t::l,n,acc=>if stripR t= []then rows l (n+1) acc else match OI (stripR t)with
  |none=>([],((n+1:Nat):Int),2)
  |some h=>rows l (n+1) (acc++ [h])
def text (l:List Hdr):List UInt8:=l.flatMap fun h=>h.1++ [58,32]++h.2++ [13,10]
def few (l:List Hdr) (n:Nat):List Hdr:=(l.take n).map fun h=>(h.1.take 30,h.2.take 100)
def same (a b:List UInt8):Bool:=decide (a.map Tg.Lo.low=b.map Tg.Lo.low)
end Tg.Hd
namespace Tg.Hd
structure FineP (h:Hdr):Prop where
 ne:h.1≠ []
 tok: ∀b∈h.1,tok b=true
 trim:trim h.2=h.2
 free: ∀b∈h.2,b≠0/\b≠13/\b≠10
 len:h.2.length<=8192
end Tg.Hd
namespace Go.Proofs.YtbeoilidocfofaaGreatDoor
open Go.Lg Go.Tg
section
variable {H:LH} {b:UInt8} {s t:List UInt8}
theorem sH:LC Tryz.prog EJ 198 [.int .u8 b.toNat] H=some (.bool (Tg.Hd.white b),H):=by
 refine ag rfl Tryz.func198 rfl (Nat.le_of_ble_eq_true rfl) (by decide) (by kernel_rfl) rfl ?_;by_cases h1:b=9
 ·subst h1;simp [Tg.Hd.white]
 by_cases h2:b=10
 ·subst h2;simp [Tg.Hd.white]
 by_cases h3:b=13
 ·subst h3;simp [Tg.Hd.white]
 by_cases h4:b=32
 ·subst h4;simp [Tg.Hd.white]
 simp [Tg.Hd.white,h1,h2,h3,h4]
theorem KL {g:FuncId} {q:UInt8->Bool} (hg: ∀(b:UInt8) (H:LH),LC Tryz.prog EJ g [.int .u8 b.toNat] H=some (.bool (q b),H)) (hs:s.length<=9223372036854775806):
  LC Tryz.prog EJ 261 [str s,.func (.func g) #[] #[]] H=some (.int .i64 ((s.reverse.dropWhile q).length:Nat),H):=by
 refine ag rfl Tryz.func261 rfl (Nat.le_of_ble_eq_true rfl) (by decide) (by kernel_rfl) rfl ?_;obtain⟨x,hx⟩: ∃x,x=(s.reverse.dropWhile q).length:=⟨_,rfl⟩
 rw [<-hx];simp;refine aK (fun(i:Nat) fr' H'=>fr' 0=str s/\fr' 1=.func (.func g) #[] #[]/\fr' 5=.int .i64 i/\i<=s.length/\x=((s.take i).reverse.dropWhile q).length/\H'=H) (fun i=>i) s.length ⟨by simp,by simp,by simp,Nat.le_refl _,by rw [List.take_length];exact hx,rfl⟩ ?_;rintro i fr' H' ⟨h0,h1,h5,hi,hc,rfl⟩ ih;by_cases hz:0<i
 ·have q0:=eq_true (show(0:Int)<(i:Int) by omega);have hlt:i-1<s.length:=by omega
  have hw:IntKind.i64.wrap ((i:Int)-1)=((i-1:Nat):Int):=by rw [wrapI (by omega) (by omega)];omega
  have hat:at_ s ((i-1:Nat):Int)=s[i-1]:=dw hlt;have q1:=eq_true (show((i-1:Nat):Int)<(s.length:Int) by omega)
  have e:s.take i=s.take (i-1)++ [s[i-1]]:=by
   have:=List.take_succ_eq_append_getElem hlt;rw [show i-1+1=i by omega]at this;exact this
  rw [e,List.reverse_append,List.reverse_singleton,List.singleton_append,List.dropWhile_cons]at hc;have hgc:=hg s[i-1];generalize s[i-1]=c at*;generalize hk:i-1=k at*;cases hq:q c with
  |true=>
   rw [hq]at hc hgc;rw [if_pos rfl]at hc;simp [h0,h1,h5,q0,hz,hw,hat,q1,hlt,hgc];refine ih k _ _ (by omega) ⟨?_,?_,?_,by omega,hc,rfl⟩
   all_goals simp [h0,h1,hw]
  |false=>
   rw [hq]at hc hgc;rw [if_neg (by decide)]at hc;have hxi:x=i:=by rw [hc];simp;omega
   subst hxi;simp [h0,h1,h5,q0,hz,hw,hat,q1,hlt,hgc]
 ·have q0:=eq_false (show¬(0:Int)<(i:Int) by omega);have hi0:i=0:=by omega
  subst hi0;have hx0:x=0:=by rw [hc];rfl
  subst hx0;simp [h0,h1,h5]
theorem uH:Tg.Hd.trimE s=s.take (s.reverse.dropWhile Tg.Hd.white).length:=by
 have h2:Tg.Hd.trimE s<+:s:=List.reverse_suffix.mp (by unfold Tg.Hd.trimE;rw [List.reverse_reverse];exact List.dropWhile_suffix _);have:=List.prefix_iff_eq_take.mp h2;rw [this];congr 1;unfold Tg.Hd.trimE;rw [List.length_reverse]
theorem Fw (hs:s.length<=9223372036854775806):LC Tryz.prog EJ 249 [str s] H=some (str (Tg.Hd.trim s),H):=by
 refine ag rfl Tryz.func249 rfl (Nat.le_of_ble_eq_true rfl) (by decide) (by kernel_rfl) rfl ?_;have he:=fun H:LH=>KL (H:=H) (s:=s) (g:=198) (q:=Tg.Hd.white) (fun b H=>sH) hs;have hw:=fun(H:LH) (b:UInt8)=>sH (H:=H) (b:=b);obtain⟨x,hx⟩: ∃x,x=Tg.Hd.trim s:=⟨_,rfl⟩
 rw [<-hx];unfold Tg.Hd.trim at hx;rw [uH]at hx
 have hle:(s.reverse.dropWhile Tg.Hd.white).length<=s.length:=by
  have:=(List.dropWhile_suffix (l:=s.reverse) Tg.Hd.white).length_le
  rwa [List.length_reverse]at this
 generalize (s.reverse.dropWhile Tg.Hd.white).length=n at*;have q1:=eq_true (show(n:Int)<=(s.length:Int) by omega);have htl:(s.take n).length<=9223372036854775806:=by rw [List.length_take];omega
 simp [he,q1,hle];generalize s.take n=t at*;refine aK (fun(i:Nat) fr' H'=>fr' 0=str t/\fr' 3=.int .i64 i/\i<=t.length/\x=(t.drop i).dropWhile Tg.Hd.white/\H'=H) (fun i=>t.length-i) 0 ⟨by simp,by simp,Nat.zero_le _,hx,rfl⟩ ?_;rintro i fr' H' ⟨h0,h3,hi,hc,rfl⟩ ih;by_cases hlt:i<t.length
 ·have q:=eq_true (show(i:Int)<(t.length:Int) by omega);have hat:at_ t (i:Int)=t[i]:=dw hlt;have hw1:IntKind.i64.wrap ((i:Int)+1)=((i+1:Nat):Int):=by rw [wrapI (by omega) (by omega)];omega
  have qi:=eq_true (show(i:Int)<=(t.length:Int) by omega);rw [List.drop_eq_getElem_cons hlt,List.dropWhile_cons]at hc;have hwc:=fun H=>hw H t[i];have hdr:t.drop i=t[i]::t.drop (i+1):=List.drop_eq_getElem_cons hlt;generalize t[i]=c at*;cases hq:Tg.Hd.white c with
  |true=>
   rw [hq]at hc hwc;rw [if_pos rfl]at hc;simp [h0,h3,q,hlt,hat,hwc];refine ih (i+1) _ _ (by omega) ⟨?_,?_,by omega,hc,rfl⟩
   all_goals simp [h0,hw1]
  |false=>
   rw [hq]at hc hwc;rw [if_neg (by decide),<-hdr]at hc;simp [h0,h3,q,hlt,hat,hwc,qi,hi,hc]
 ·have q:=eq_false (show¬(i:Int)<(t.length:Int) by omega);have qi:=eq_true (show(i:Int)<=(t.length:Int) by omega);have hil:i=t.length:=by omega
  rw [List.drop_of_length_le (by omega)]at hc;subst hil;simp [h0,h3,hc]
theorem BJ:LC Tryz.prog EJ 262 [.int .u8 b.toNat] H=some (.bool (decide ((97:Int)<=b.toNat)&&decide ((b.toNat:Int)<=122)),H):=by
 refine ag rfl Tryz.func262 rfl (Nat.le_of_ble_eq_true rfl) (by decide) (by kernel_rfl) rfl ?_;by_cases h1:(97:Int)<=b.toNat<;>by_cases h2:(b.toNat:Int)<=122<;>simp [h1,h2]
theorem xS:LC Tryz.prog EJ 234 [.int .u8 b.toNat] H=some (.bool (Tg.Hd.isL b),H):=by
 refine ag rfl Tryz.func234 rfl (Nat.le_of_ble_eq_true rfl) (by decide) (by kernel_rfl) rfl ?_;have h1:=fun H:LH=>BJ (H:=H) (b:=b);have h2:=fun H:LH=>nu (H:=H) (b:=b);unfold Tg.Hd.isL;cases e1:(decide ((97:Int)<=b.toNat)&&decide ((b.toNat:Int)<=122))<;>rw [e1]at h1<;>
 cases e2:(decide ((65:Int)<=b.toNat)&&decide ((b.toNat:Int)<=90))<;>rw [e2]at h2<;>simp [h1,h2]
theorem BK:LC Tryz.prog EJ 282 [.int .u8 b.toNat] H=some (.bool (Tg.Hd.tok b),H):=by
 refine ag rfl Tryz.func282 rfl (Nat.le_of_ble_eq_true rfl) (by decide) (by kernel_rfl) rfl ?_;have h1:=fun H:LH=>xS (H:=H) (b:=b);have h2: ∀H:LH,LC Tryz.prog EJ 235 [.int .u8 b.toNat] H=some (.bool (Tg.Hd.isD b),H):=fun H=>sF (H:=H) (b:=b);have h3:=AZ Tg.Hd.signs b;unfold Tg.Hd.tok;cases e1:Tg.Hd.isL b with
 |true=>rw [e1]at h1;simp [h1]
 |false=>
  rw [e1]at h1;cases e2:Tg.Hd.isD b with
  |true=>rw [e2]at h2;simp [h1,h2]
  |false=>
   rw [e2]at h2;rw [h3];unfold Tg.Hd.signs;simp [h1,h2];generalize Lib.indexByte _ b=x;rw [Bool.eq_iff_iff];simp
abbrev hv (h:Tg.Hd.Hdr):Value:=.agg #[str h.1,str h.2]
abbrev hb (h:Tg.Hd.Hdr):LB:=⟨[str h.1,str h.2],58,true⟩
theorem eN (s:List UInt8):(Tg.Hd.trim s).length<=s.length:=by
 unfold Tg.Hd.trim Tg.Hd.trimE;refine Nat.le_trans (HX _) ?_;rw [List.length_reverse];refine Nat.le_trans (HX _) ?_;rw [List.length_reverse];exact Nat.le_refl _
end
def bT (H:LH) (v:Value) (l:List Tg.Hd.Hdr):Prop:=
 (v=.slice none 0 0/\l= [])\/ ∃(k o c:Nat),v=.slice (some ⟨k,o,none⟩) l.length c/\(l≠ []-> ∃b:LB,H.get k=some b/\k<H.n/\ ∀(i:Nat) (h:i<l.length),o+i*2+2<=b.cells.length/\(b.cells.drop (o+i*2)).take 2= [str l[i].1,str l[i].2]/\b.cells[o+i*2]?=some (str l[i].1)/\b.cells[o+i*2+1]?=some (str l[i].2))
abbrev gm (N:Nat) (H:LH) (v:Value) (l:List Tg.Hd.Hdr):Prop:=bA N H 58 2 v l.length (Tg.Hd.cells l)
section
variable {H H':LH} {v:Value} {l:List Tg.Hd.Hdr} {N:Nat}
theorem bT.keep (h:bT H v l) (hn:H.n<=H'.n) (hk: ∀k,k<H.n->H'.get k=H.get k):bT H' v l:=by
 rcases h with h|⟨k,o,c,h1,h2⟩
 ·exact .inl h
 ·refine .inr ⟨k,o,c,h1,fun hne=>?_⟩;obtain⟨b,h2,h3,h4⟩:=h2 hne;exact⟨b,by rw [hk k h3];exact h2,by omega,h4⟩
theorem bT.len (h:bT H v l):aI Tryz.prog .len [26] [v] H'=some (.int .i64 l.length,H'):=by
 rcases h with⟨rfl,rfl⟩|⟨k,o,c,rfl,h2⟩
 ·simp
 ·simp
theorem bT.at (h:bT H v l) {i:Nat} (hi:i<l.length): ∃k o,(∀H':LH,iu Tryz.prog 26 v (.int .i64 i) H'=some (ptr k o,H'))/\k<H.n/\ ∀H':LH,H'.get k=H.get k->
  gI Tryz.prog 58 (ptr k o) H'=some (hv l[i])/\gI Tryz.prog 9 (ptr k o) H'=some (str l[i].1)/\gI Tryz.prog 9 (ptr k (o+1)) H'=some (str l[i].2):=by
 rcases h with⟨rfl,rfl⟩|⟨k,o,c,rfl,h2⟩
 ·simp at hi
 ·obtain⟨b,h2,h3,h4⟩:=h2 (fun e=>by rw [e]at hi;simp at hi);obtain⟨g1,g2,g3,g4⟩:=h4 i hi;refine⟨k,o+i*2,fun H'=>?_,h3,fun H' e=>?_⟩
  ·have q:=eq_true (show(i:Int)<(l.length:Int) by omega);simp [q]
  ·rw [h2]at e;have hlt:o+i*2<b.cells.length:=by omega
   have hlt2:o+i*2+1<b.cells.length:=by omega
   rw [List.getElem?_eq_getElem hlt]at g3;rw [List.getElem?_eq_getElem hlt2]at g4;injection g3 with g3;injection g4 with g4;simp [e,g1,g2,g3,g4,hlt,hlt2]
theorem gm.row (h:gm N H v l):bT H v l:=by
 rcases h.2 with⟨rfl,h0⟩|⟨k,c,rest,rfl,h1,h2,h3,h4,h5⟩
 ·exact .inl ⟨rfl,List.eq_nil_of_length_eq_zero h0⟩
 ·refine .inr ⟨k,0,c,rfl,fun _=>⟨_,h3,h2,fun i hi=>?_⟩⟩;have g:=Tg.Hd.cells_at hi rest;have hl:=Tg.Hd.cells_len l;simp only [Nat.zero_add];refine⟨?_,g⟩;rw [List.length_append,hl];omega
theorem gm.nil:gm N H (.slice none 0 0) []:=bA.nil
theorem OJ (h:gm N H v l) (hN:N<=H.n) (hl:l.length<=100000) (a b:List UInt8):
  ∃v' H2,eJ Tryz.prog 26 v (some (1,[str a,str b])) (H.new ⟨[str a,str b],58,true⟩)=some (v',H2)/\gm N H2 v' (l++ [(a,b)])/\H.n<H2.n/\(∀k,k<H.n->ay v k->H2.get k=H.get k)/\(Full v->Full v')/\(∀k,k<H.n->ay v k->ay v' k):=by
 have h2:gm N (H.new ⟨[str a,str b],58,true⟩) v l:=h.keep (Nat.le_succ _) (fun k _ _ hk=>aa (by omega));obtain⟨v',H2,ha,hr,hk,hf⟩:=bA.app (P:=Tryz.prog) (t:=26) (new:= [str a,str b]) (m:=1) h2 Tryz.underlying26 (by kernel_rfl) (by simp) (by simp) (by unfold aH;omega) (by rw [aL];omega) (.inl (Nat.le_refl 1));refine⟨v',H2,ha,?_,?_,fun k hkn ho=>?_,hf,fun k hkn ho=>?_⟩
 ·have e:Tg.Hd.cells (l++ [(a,b)])=Tg.Hd.cells l++ [str a,str b]:=by rw [Tg.Hd.cells_app];rfl
  rw [gm,List.length_append,e];exact hr
 ·have:=hk.le;rw [aL]at this;omega
 ·rw [hk.get k (by rw [aL];omega) ho,aa (by omega)]
 ·exact hk.off k (by rw [aL];omega) ho
end
end Go.Proofs.YtbeoilidocfofaaGreatDoor
namespace Tg.Hd
end Tg.Hd
namespace Go.Proofs.YtbeoilidocfofaaGreatDoor
open Go.Lg Go.Tg
section
variable {H:LH} {b:UInt8} {s p:List UInt8}
end
end Go.Proofs.YtbeoilidocfofaaGreatDoor
namespace Tg.Hd
end Tg.Hd
namespace Go.Proofs.YtbeoilidocfofaaGreatDoor
open Go.Lg Go.Tg
section
variable {H:LH} {v w:Value} {l m:List Tg.Hd.Hdr} {N:Nat}
end
end Go.Proofs.YtbeoilidocfofaaGreatDoor
