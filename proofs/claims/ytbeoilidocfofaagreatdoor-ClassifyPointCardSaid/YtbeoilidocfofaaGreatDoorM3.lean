/-
  Texts joined, part 3: LgCh, LgChB, LgRun, LgCall, Pg, PgB, PgC, PgD, PgE, PgL, PgF, UnCat, LgSimp, LgUp, LgBase.
-/
import Derived.Test.YtbeoilidocfofaaGreatDoorM2
import Derived.AtR
import Derived.RangeFuncIn
import Derived.RangeFuncRecord
import Derived.Test.YtbeoilidocfofaaGreatDoorChecked
import Derived.WalkKit
import Derived.Defers
import Derived.Recover
import Derived.WalkLawsBesides
set_option linter.all false
namespace Go.Lg
open Go.Tg Go.RowKit
def LS (listed:Array Bool) (j:Nat):Prop:=listed.getD j true=true
def Cl (ops:Array Oper) (listed:Array Bool):Prop:= ∀j o,ops[j]?=some o->LS listed j-> ∀e∈o.after,Region.binds .any e=true->LS listed e.on
theorem iE {acc:List Nat} {k:Nat} : ∀ {es:List Edge},(ew acc es).testBit k=true-> ∃e∈es,Region.binds .any e=true/\e.on<acc.length/\(k=e.on\/(acc.getD e.on 0).testBit k=true)
 | [],h=>by simp [ew]at h
 |e::es,h=>by
  unfold ew at h;split at h
  ·rename_i hc;simp only [Bool.and_eq_true,decide_eq_true_eq]at hc;rw [Nat.testBit_or,Nat.testBit_or,Bool.or_eq_true,Bool.or_eq_true]at h;rcases h with(h|h)|h
   ·rw [Nat.testBit_two_pow]at h;exact⟨e,List.mem_cons_self ..,hc.1,hc.2,.inl (by simpa using h:e.on=k).symm⟩
   ·exact⟨e,List.mem_cons_self ..,hc.1,hc.2,.inr h⟩
   ·obtain⟨e',h1,h2⟩:=iE h;exact⟨e',List.mem_cons_of_mem _ h1,h2⟩
  ·obtain⟨e',h1,h2⟩:=iE h;exact⟨e',List.mem_cons_of_mem _ h1,h2⟩
theorem kl: ∀(os:List Oper) (acc:List Nat),∃l,cO os acc=acc++l/\l.length=os.length
 | [],acc=>⟨[],by simp [cO],rfl⟩
 |o::os,acc=>by
  obtain⟨l,h1,h2⟩:=kl os (acc++ [ew acc o.after.toList]);exact⟨ew acc o.after.toList::l,by unfold cO;rw [h1];simp,by simp [h2]⟩
theorem rA: ∀(os:List Oper) (acc:List Nat) (i:Nat) (o:Oper),os[i]?=some o->(cO os acc).getD (acc.length+i) 0=ew ((cO os acc).take (acc.length+i)) o.after.toList
 | [],_,_,_,h=>by simp at h
 |o::os,acc,0,o',h=>by
  simp at h;subst h;obtain⟨l,h1,h2⟩:=kl os (acc++ [ew acc o.after.toList]);unfold cO;rw [h1];simp
 |o::os,acc,i+1,o',h=>by
  have h':os[i]?=some o':=by simpa using h
  have:=rA os (acc++ [ew acc o.after.toList]) i o' h';unfold cO;rw [show acc.length+(i+1)=(acc++ [ew acc o.after.toList]).length+i by simp;omega];exact this
theorem ot {ops:Array Oper} {i k:Nat} {o:Oper} (ho:ops[i]?=some o) (h:fE (cO ops.toList []) i k=true): ∃e∈o.after.toList,Region.binds .any e=true/\e.on<i/\(k=e.on\/fE (cO ops.toList []) e.on k=true):=by
 have hi:i<ops.size:=(Array.getElem?_eq_some_iff.1 ho).1;have h1:=rA ops.toList [] i o (by simpa using ho);obtain⟨l,g1,g2⟩:=kl ops.toList [];simp only [List.nil_append]at g1;have hlen:(cO ops.toList []).length=ops.size:=by rw [g1,g2];simp
 unfold fE at h;rw [List.length_nil,Nat.zero_add]at h1;rw [h1]at h;obtain⟨e,a1,a2,a3,a4⟩:=iE h;have hlt:e.on<i:=by simp at a3;omega
 refine⟨e,a1,a2,hlt,?_⟩;rcases a4 with a4|a4
 ·exact .inl a4
 ·refine .inr ?_;unfold fE
  have:((cO ops.toList []).take i).getD e.on 0=(cO ops.toList []).getD e.on 0:=by
   simp only [List.getD_eq_getElem?_getD,List.getElem?_take,if_pos hlt]
  rw [<-this];exact a4
theorem ou {ops:Array Oper} {listed:Array Bool} (hc:Cl ops listed): ∀(n i:Nat),i<n-> ∀o,ops[i]?=some o->(∀e∈o.after,Region.binds .any e=true->LS listed e.on)-> ∀k,fE (cO ops.toList []) i k=true->LS listed k:=by
 intro n;induction n with
 |zero=>intro i hi;omega
 |succ n ih=>
  intro i hi o ho hall k hk;obtain⟨e,a1,a2,a3,a4⟩:=ot ho hk;have hl:=hall e (by simpa using a1) a2;rcases a4 with rfl|a4
  ·exact hl
  ·have hlt:e.on<ops.size:=by have:=(Array.getElem?_eq_some_iff.1 ho).1;omega
   exact ih e.on (by omega) _ (Array.getElem?_eq_getElem hlt) (hc e.on _ (Array.getElem?_eq_getElem hlt) hl) k a4
theorem eS {ops:Array Oper} {listed:Array Bool} (hc:Cl ops listed) {i:Nat} (hi:i∈Region.ready .any ops listed) {k:Nat} (hk:fE (cO ops.toList []) i k=true):LS listed k:=by
 obtain⟨_,o,ho,hall⟩:=mem_ready.1 hi;exact ou hc (i+1) i (Nat.lt_succ_self _) o ho (fun e he hb=>jg (hall e he hb)) k hk
theorem kX {ops:Array Oper} {listed:Array Bool} (hc:Cl ops listed) {i:Nat} (hi:i<ops.size) (hl:LS listed i) {k:Nat} (hk:fE (cO ops.toList []) i k=true):LS listed k:=
 ou hc (i+1) i (Nat.lt_succ_self _) _ (Array.getElem?_eq_getElem hi) (hc i _ (Array.getElem?_eq_getElem hi) hl) k hk
section
variable [Cvt] {P:Program} {T:Callee} {fr:Fr} {H H':LH} {o:Oper} {v:Value}
theorem rB (hb:bo o.op=false) (h:bS P T o fr H=some (v,H')):H'=H:=by
 cases hk:eQ o.op with
 |true=>exact kj h hk
 |false=>
  obtain⟨dst,op,ty,pos,after,guard⟩:=o;cases op with
  |call c=>
   simp only [bo]at hb;simp only [bS]at h;split at h
   ·rename_i f hc;simp only [hc]at hb;cases hb
   ·rename_i b hc;simp only [hc]at hb;have hne:b≠.append:=by rintro rfl;cases hb
    exact(fY (H1:=H) hne h).1
   ·cases h
  |store _ _ _=>cases hb
  |box _ _=>cases hb
  |alloc _=>cases hb
  |buildSlice _ _ _=>cases hb
  |makeSlice _ _ _=>cases hb
  |_=>cases hk
theorem Gy (hb:bo o.op=false):Lb o.op=false:=by
 obtain⟨dst,op,ty,pos,after,guard⟩:=o;cases op<;>first|rfl|exact hb
theorem ji (hc:Lb o.op=false):cY P T o fr H=bS P T o fr H:=by
 unfold cY;rw [if_neg (by rw [hc];decide)]
theorem wF (hb:bo o.op=false) (h:cY P T o fr H=some (v,H')):H'=H:=rB hb (by rwa [ji (Gy hb)]at h)
theorem zi (hb:bo o.op=false) (hr:Io o.op=false) (h:bS P T o fr H=some (v,H')) (H1:LH):bS P T o fr H1=some (v,H1):=by
 obtain⟨dst,op,ty,pos,after,guard⟩:=o;cases op with
 |call c=>
  simp only [bo]at hb;simp only [bS]at h⊢;split at h
  ·rename_i f hc;simp only [hc]at hb;cases hb
  ·rename_i b hc;simp only [hc]at hb;have hne:b≠.append:=by rintro rfl;cases hb
   rw [(fY (H1:=H1) hne h).2]
  ·cases h
 |store _ _ _=>cases hb
 |box _ _=>cases hb
 |alloc _=>cases hb
 |buildSlice _ _ _=>cases hb
 |makeSlice _ _ _=>cases hb
 |load _ _=>cases hr
 |convert s d x=>simp only [bo]at hb;simp only [Io,hb]at hr;cases hr
 |move x=>simp only [bS,Option.some.injEq,Prod.mk.injEq]at h⊢;exact⟨h.1,trivial⟩
 |assign x=>simp only [bS,Option.some.injEq,Prod.mk.injEq]at h⊢;exact⟨h.1,trivial⟩
 |pick c a b=>
  simp only [bS]at h⊢;split at h
  ·simp only [Option.some.injEq,Prod.mk.injEq]at h⊢;exact⟨h.1,trivial⟩
  ·cases h
 |nilCheck x=>
  simp only [bS]at h⊢;split at h
  ·simp only [Option.some.injEq,Prod.mk.injEq]at h⊢;exact⟨h.1,trivial⟩
  ·simp only [Option.some.injEq,Prod.mk.injEq]at h⊢;exact⟨h.1,trivial⟩
  ·cases h
 |fieldAddr s x f=>
  simp only [bS]at h⊢;split at h
  ·split at h
   ·split at h
    ·split at h
     ·cases h
     ·rename_i hz;rw [if_neg hz];simp only [Option.some.injEq,Prod.mk.injEq]at h⊢;exact⟨h.1,trivial⟩
    ·cases h
   ·cases h
  ·cases h
 |indexAddr t x i=>
  simp only [bS]at h⊢;split at h
  ·split at h
   ·split at h
    ·rename_i hz;rw [if_pos hz];simp only [Option.some.injEq,Prod.mk.injEq]at h⊢;exact⟨h.1,trivial⟩
    ·cases h
   ·cases h
  ·cases h
 |slice t x lo hi mx=>
  cases mx with
  |none=>
   simp only [bS]at h⊢;obtain⟨u,hu,e⟩:=Option.map_eq_some_iff.1 h;rw [hu];simp only [Prod.mk.injEq]at e;rw [<-e.1];rfl
  |some _=>simp [bS]at h
 |field t x f=>
  simp only [bS]at h⊢;split at h
  ·split at h
   ·split at h
    ·simp only [Option.some.injEq,Prod.mk.injEq]at h⊢;exact⟨h.1,trivial⟩
    ·obtain⟨u,hu,e⟩:=Option.map_eq_some_iff.1 h;rw [hu];simp only [Prod.mk.injEq]at e;rw [<-e.1];rfl
    ·cases h
   ·cases h
  ·cases h
 |extract x i=>
  simp only [bS]at h⊢;split at h
  ·obtain⟨u,hu,e⟩:=Option.map_eq_some_iff.1 h;rw [hu];simp only [Prod.mk.injEq]at e;rw [<-e.1];rfl
  ·cases h
 |build t ps=>
  simp only [bS]at h⊢;obtain⟨u,hu,e⟩:=Option.map_eq_some_iff.1 h;rw [hu];simp only [Prod.mk.injEq]at e;rw [<-e.1];rfl
 |makeFunc f first cap=>
  cases f with
  |func g=>
   simp only [bS]at h⊢;simp only [Option.some.injEq,Prod.mk.injEq]at h;rw [h.1]
  |_=>simp [bS]at h
 |binOp op t x y yt=>
  simp only [bS]at h⊢;obtain⟨u,hu,e⟩:=Option.map_eq_some_iff.1 h;rw [hu];simp only [Prod.mk.injEq]at e;rw [<-e.1];rfl
 |unOp op t x=>
  simp only [bS]at h⊢;split at h
  ·obtain⟨u,hu,e⟩:=Option.map_eq_some_iff.1 h;rw [if_pos ‹_›,hu];simp only [Prod.mk.injEq]at e;rw [<-e.1];rfl
  ·cases h
 |index t x i=>
  simp only [bS]at h⊢;split at h
  ·obtain⟨u,hu,e⟩:=Option.map_eq_some_iff.1 h;rw [if_pos ‹_›,hu];simp only [Prod.mk.injEq]at e;rw [<-e.1];rfl
  ·cases h
 |_=>simp [bS]at h
end
section
variable {P:Program} {ops:Array Oper}
theorem zj {k:Nat} {t:Tmp} (hk:aJ ops k=some t):k<ops.size:=by
 unfold aJ at hk;cases hq:ops[k]? with
 |none=>simp [hq]at hk
 |some x=>exact(Array.getElem?_eq_some_iff.1 hq).1
theorem Gz {T:Callee} {o:Oper} {fr:Fr} {H:LH} {x:Value×LH} (h:bS P T0 o fr H=some x):bS P T o fr H=some x:=by
 obtain⟨dst,op,ty,pos,after,guard⟩:=o;cases op with
 |call c=>
  simp only [bS]at h⊢;split at h
  ·unfold bE at h;split at h
   ·cases h
   ·cases h
  ·exact h
  ·cases h
 |makeFunc f _ _=>cases f<;>exact h
 |slice _ _ _ _ mx=>cases mx<;>exact h
 |_=>exact h
theorem ko {w:World} {A:Nat} {x:Obj} (h:w.heap[A]?=some x):A<w.heap.size:=(Array.getElem?_eq_some_iff.1 h).1
theorem DC {H:LH} {ι:Ren} {w:World} (h:Rel P H ι w) {b:LB} {arr:Array Value} {t:TypeId} {f:Nat×Nat} {slack A:Nat} (hlen:b.cells.length<=arr.size) (hrw:b.rw=true->kc P b.elem t f arr.size/\ ∃s,sz P t=some s/\arr.size=b.cells.length+slack*s/\ ∀n,s≠0->b.cells.length=n*s->n+slack<=maxLen) (hc: ∀(i:Nat) x,b.cells[i]?=some x-> ∃y,arr[i]?=some y/\VR H.D ι x y) (hA:w.heap[A]?=some (.cells arr t f)) (hno: ¬lE H ι A) (hpin: ∀g,g<H.ng->g≠A):
  Rel P (H.new b) (ι.add H.n ⟨A,0,slack⟩) w/\(∀l,H.D l->(H.new b).D l)/\(∀l,H.D l->(ι.add H.n ⟨A,0,slack⟩) l=ι l)/\(∀k,RW (H.new b) (ι.add H.n ⟨A,0,slack⟩) k->RW H ι k\/k=A)/\(∀k,lE (H.new b) (ι.add H.n ⟨A,0,slack⟩) k->lE H ι k\/k=A):=by
 obtain⟨d1,d2,d3⟩:=lF h (b:=b);have hget: ∀k,(H.new b).get k=if k=H.n then some b else H.get k:=fun _=>rfl
 have hne0: ∀l,H.D l->l≠H.n:=fun l hl e=>d3 (e▸hl);have hsame: ∀l,H.D l->(ι.add H.n ⟨A,0,slack⟩) l=ι l:=fun l hl=>by unfold Ren.add;rw [if_neg (hne0 l hl)]
 have hsub: ∀l,H.D l->(H.new b).D l:=fun l hl=>(fh h l).2 (.inl hl)
 have hrwk: ∀k,RW (H.new b) (ι.add H.n ⟨A,0,slack⟩) k->RW H ι k\/k=A:=by
  rintro k ⟨l,b',hb',hrw',rfl⟩;rw [hget]at hb';split at hb'
  ·rename_i e;subst e;right;simp [Ren.add]
  ·left;rw [hsame l (h.live hb')];exact⟨l,b',hb',hrw',rfl⟩
 have himg: ∀k,lE (H.new b) (ι.add H.n ⟨A,0,slack⟩) k->lE H ι k\/k=A:=by
  rintro k ⟨l,b',hb',rfl⟩;rw [hget]at hb';split at hb'
  ·rename_i e;subst e;right;simp [Ren.add]
  ·left;rw [hsame l (h.live hb')];exact⟨l,b',hb',rfl⟩
 refine⟨⟨d1,d2,?_,?_,fun g hg=>?_⟩,hsub,hsame,hrwk,himg⟩
 ·intro l b' hb';rw [hget]at hb';split at hb'
  ·rename_i e;subst e;injection hb' with hb';subst hb';have e:(ι.add H.n ⟨A,0,slack⟩) H.n=⟨A,0,slack⟩:=by simp [Ren.add]
   rw [e];refine⟨arr,t,f,hA,by simpa using hlen,fun i x hx=>?_,fun hr=>⟨rfl,hrw hr⟩⟩;obtain⟨y,hy,hv⟩:=hc i x hx;exact⟨y,by simpa using hy,hv.mono hsub hsame⟩
  ·rw [hsame l (h.live hb')];obtain⟨arr',t,f,hw,h1,h2,h3⟩:=h.blk l b' hb';refine⟨arr',t,f,hw,h1,fun i x hx=>?_,h3⟩;obtain⟨y,hy,hv⟩:=h2 i x hx;exact⟨y,hy,hv.mono hsub hsame⟩
 ·intro l l' b1 b2 h1 h2 hrw1 hne;rw [hget]at h1 h2;split at h1<;>split at h2
  ·omega
  ·rename_i e1 e2;rw [hsame l' (h.live h2),e1];simp only [Ren.add,if_true];exact fun e=>hno ⟨l',b2,h2,e.symm⟩
  ·rename_i e1 e2;rw [hsame l (h.live h1),e2];simp only [Ren.add,if_true];exact fun e=>hno ⟨l,b1,h1,e⟩
  ·rw [hsame l (h.live h1),hsame l' (h.live h2)];exact h.sep l l' b1 b2 h1 h2 hrw1 hne
 ·obtain⟨p1,p2,p3⟩:=h.pin g hg;refine⟨p1,p2,fun hk=>?_⟩;rcases hrwk g hk with h1|h1
  ·exact p3 h1
  ·exact hpin g hg h1
end
section
variable [Cvt] {P:Program} {T:Callee} {N:Nat} {ops:Array Oper} {prs:List (Nat×Nat)} {st:Nat->Fr×LH} {r:Fr×LH}
def vq (P:Program) (T:Callee) (N:Nat) (ops:Array Oper) (prs:List (Nat×Nat)) (st:Nat->Fr×LH) (i:Nat) (o:Oper):Prop:=
 ∃b v,aQ ops (st i).1 o=some b/\bb N (st i).1 o.dst v=some (st (i+1)).1/\
  (b=true->cY P T o (st i).1 (st i).2=some (v,(st (i+1)).2)/\
   (∀j,(i,j)∈prs->j<i->bS P T0 o (st i).1 (st j).2=some (v,(st j).2)))/\
  (∀m,(m,i)∈prs->m<i-> ∀om d,ops[m]?=some om->om.dst=some d->aQ ops (st m).1 om=some true->bS P T0 om (st m).1 (st (i+1)).2=some ((st (i+1)).1 d,(st (i+1)).2))/\
  (b=false->v=undef/\(st (i+1)).2=(st i).2)
theorem pC: ∀(os:List Oper) (k:Nat) (old:Nat->Fr×LH) (fr:Fr) (H:LH),ops.toList.drop k=os->k<=ops.size->aY P T N ops prs k old os fr H=some r->
  ∃st:Nat->Fr×LH,(∀j,j<k->st j=old j)/\st k=(fr,H)/\st ops.size=r/\ ∀i,k<=i-> ∀o,ops[i]?=some o->vq P T N ops prs st i o
 | [],k,old,fr,H,hd,hk,h=>by
  have hlen:=congrArg List.length hd;simp at hlen;have hks:k=ops.size:=by omega
  simp only [aY,Option.some.injEq]at h;refine⟨fun j=>if j<k then old j else(fr,H),fun j hj=>by simp [hj],by simp,by subst hks;simp [h],fun i hi o ho=>?_⟩;have:=(Array.getElem?_eq_some_iff.1 ho).1;omega
 |o::os,k,old,fr,H,hd,hk,h=>by
  have hlen:=congrArg List.length hd;simp at hlen;have hklt:k<ops.size:=by omega
  have hok:ops[k]?=some o:=by
   have e:(ops.toList.drop k)[0]?=ops.toList[k]?:=by rw [List.getElem?_drop];simp
   rw [hd]at e;rw [<-Array.getElem?_toList,<-e];rfl
  have hd':ops.toList.drop (k+1)=os:=by
   rw [<-List.tail_drop,hd];rfl
  unfold aY at h;split at h
  ·rename_i hw;split at h
   ·rename_i v H1 hop;split at h
    ·rename_i fr1 hput;split at h
     ·rename_i hck;obtain⟨st,s1,s2,s3,s4⟩:=pC os (k+1) _ fr1 H1 hd' (by omega) h;have sk:st k=(fr,H):=by rw [s1 k (by omega)];simp
      have so: ∀j,j<k->st j=old j:=fun j hj=>by rw [s1 j (by omega)];simp [show j≠k by omega]
      refine⟨st,so,sk,s3,fun i hi o' ho'=>?_⟩;rcases Nat.lt_or_eq_of_le hi with h1|h1
      ·exact s4 i h1 o' ho'
      ·subst h1;have:o'=o:=Option.some.inj (ho'.symm.trans hok);subst this;refine⟨true,v,by rw [sk];exact hw,by rw [sk,s2];exact hput,fun _=>⟨by rw [sk,s2];exact hop,fun j hj hjk=>?_⟩,fun m hm hmk om d hom hdm hwm=>?_,fun e=>by cases e⟩
       ·rw [sk,so j hjk];exact hck.1 j hj hjk
       ·rw [so m hmk,s2];rw [so m hmk]at hwm;exact hck.2 m hm hmk om d hom hdm hwm
     ·cases h
    ·cases h
   ·cases h
  ·rename_i hw;split at h
   ·rename_i fr1 hput;split at h
    ·rename_i hck;obtain⟨st,s1,s2,s3,s4⟩:=pC os (k+1) _ fr1 H hd' (by omega) h;have sk:st k=(fr,H):=by rw [s1 k (by omega)];simp
     have so: ∀j,j<k->st j=old j:=fun j hj=>by rw [s1 j (by omega)];simp [show j≠k by omega]
     refine⟨st,so,sk,s3,fun i hi o' ho'=>?_⟩;rcases Nat.lt_or_eq_of_le hi with h1|h1
     ·exact s4 i h1 o' ho'
     ·subst h1;have:o'=o:=Option.some.inj (ho'.symm.trans hok);subst this;refine⟨false,undef,by rw [sk];exact hw,by rw [sk,s2];exact hput,(fun e=>by cases e),fun m hm hmk om d hom hdm hwm=>?_,fun _=>⟨rfl,by rw [sk,s2]⟩⟩;rw [so m hmk,s2];rw [so m hmk]at hwm;exact hck m hm hmk om d hom hdm hwm
    ·cases h
   ·cases h
  ·cases h
structure TC (P:Program) (T:Callee) (N:Nat) (ops:Array Oper) (prs:List (Nat×Nat)) (st:Nat->Fr×LH):Prop where
 step: ∀i o,ops[i]?=some o->vq P T N ops prs st i o
 back: ∀i o,ops[i]?=some o-> ∀e∈o.after,Region.binds .any e=true->e.on<i
 dep: ∀i o t k,ops[i]?=some o->t∈Oper.looksAt ops o->aJ ops k=some t->(k<i/\fE (cO ops.toList []) i k=true/\(∀o',ops[k]?=some o'->lv o'.op=true-> ∀j o2,j<k->ops[j]?=some o2->bo o2.op=true->fE (cO ops.toList []) i j=true))\/(i<k/\fE (cO ops.toList []) k i=true)
 inj: ∀i k d,aJ ops i=some d->aJ ops k=some d->i=k
 rdst: ∀(i:Nat) (o:Oper),ops[i]?=some o->Io o.op=true-> ∃d,o.dst=some d
 heap: ∀i k o o',ops[i]?=some o->ops[k]?=some o'->bo o.op=true->i≠k->fE (cO ops.toList []) i k=true\/fE (cO ops.toList []) k i=true\/(bo o'.op=true/\k<i/\lv o.op=true)\/(bo o'.op=true/\i<k/\lv o'.op=true)\/(bo o'.op=false/\(Io o'.op=false\/(k,i)∈prs))
theorem wG (h:kb ops prs=true) (hs: ∀i o,ops[i]?=some o->vq P T N ops prs st i o):TC P T N ops prs st:=by
 unfold kb at h;simp only [Bool.and_eq_true]at h;obtain⟨⟨⟨h1,h2⟩,h3⟩,h4⟩:=h;have lt: ∀ {i:Nat} {o:Oper},ops[i]?=some o->i<ops.size:=fun ho=>(Array.getElem?_eq_some_iff.1 ho).1
 have dlt: ∀ {k:Nat} {t:Tmp},aJ ops k=some t->k<ops.size:=fun {k t} hk=>by
  unfold aJ at hk;cases hq:ops[k]? with
  |none=>simp [hq]at hk
  |some x=>exact lt hq
 refine⟨hs,fun i o ho e he hb=>?_,fun i o t k ho ht hk=>?_,fun i k d hi hk=>?_,fun i o ho hr=>?_,fun i k o o' ho ho' hb hne=>?_⟩
 ·have:=List.all_eq_true.1 h1 i (List.mem_range.2 (lt ho));simp only [ho]at this;have:=List.all_eq_true.1 this e (by simpa using he);rw [hb]at this;simpa using this
 ·have:=List.all_eq_true.1 h2 i (List.mem_range.2 (lt ho));simp only [ho]at this;have:=List.all_eq_true.1 this t ht;have:=List.all_eq_true.1 this k (List.mem_range.2 (dlt hk));rw [show(ops[k]?).bind (·.dst)=some t from hk]at this;simp only [bne_self_eq_false,Bool.false_or,Bool.or_eq_true,Bool.and_eq_true,decide_eq_true_eq]at this;rcases this with h|h
  ·exact .inr h
  ·obtain⟨⟨g1,g2⟩,g3⟩:=h;refine .inl ⟨g1,g2,fun o' ho' hn j o2 hj ho2 hb=>?_⟩;simp only [ho',hn,Bool.not_true,Bool.false_or]at g3;have:=List.all_eq_true.1 g3 j (List.mem_range.2 hj);simpa [ho2,hb]using this
 ·have:=List.all_eq_true.1 h3 i (List.mem_range.2 (dlt hi));have:=List.all_eq_true.1 this k (List.mem_range.2 (dlt hk));rw [show(ops[i]?).bind (·.dst)=some d from hi,show(ops[k]?).bind (·.dst)=some d from hk]at this;simpa using this
 ·have:=List.all_eq_true.1 h4 i (List.mem_range.2 (lt ho));simp only [ho,hr,Bool.not_true,Bool.false_or,Bool.and_eq_true]at this;exact Option.isSome_iff_exists.1 this.1
 ·have:=List.all_eq_true.1 h4 i (List.mem_range.2 (lt ho));simp only [ho,hb,Bool.not_true,Bool.false_or,Bool.and_eq_true]at this;have:=List.all_eq_true.1 this.2 k (List.mem_range.2 (lt ho'));simp only [ho',Bool.or_eq_true,beq_iff_eq,Bool.and_eq_true,Bool.not_eq_true',List.contains_iff_mem,decide_eq_true_eq]at this;rcases this with((((h|h)|h)|h)|h)|h
  ·exact absurd h hne
  ·exact .inl h
  ·exact .inr (.inl h)
  ·exact .inr (.inr (.inl ⟨h.1.1,h.1.2,h.2⟩))
  ·exact .inr (.inr (.inr (.inl ⟨h.1.1,h.1.2,h.2⟩)))
  ·exact .inr (.inr (.inr (.inr h)))
namespace TC
variable (tc:TC P T N ops prs st)
include tc
theorem at_ {i:Nat} (hi:i<ops.size): ∃o,ops[i]?=some o/\vq P T N ops prs st i o:=⟨_,Array.getElem?_eq_getElem hi,tc.step i _ (Array.getElem?_eq_getElem hi)⟩
theorem put {i:Nat} (hi:i<ops.size):(aJ ops i=none/\(st (i+1)).1=(st i).1)\/ ∃d v,aJ ops i=some d/\d<N/\(st (i+1)).1=Lg.upd (st i).1 d v:=by
 obtain⟨o,ho,b,v,_,hp,_⟩:=tc.at_ hi;unfold bb at hp;split at hp
 ·rename_i d hd;split at hp
  ·rename_i hN;simp only [Option.some.injEq]at hp;exact .inr ⟨d,v,by simp [aJ,ho,hd],hN,hp.symm⟩
  ·cases hp
 ·rename_i hd;simp only [Option.some.injEq]at hp;exact .inl ⟨by simp [aJ,ho,hd],hp.symm⟩
theorem fdst {j:Nat} {d:Tmp} (hd:aJ ops j=some d): ∀ {i:Nat},j<i->i<=ops.size->(st i).1 d=(st (j+1)).1 d:=by
 intro i hji hi;induction i with
 |zero=>omega
 |succ i ih=>
  by_cases e:j=i
  ·subst e;rfl
  ·rcases tc.put (i:=i) (by omega)with⟨_,h⟩|⟨d',v,hd',_,h⟩
   ·rw [h];exact ih (by omega) (by omega)
   ·rw [h];have hne:d≠d':=fun hx=>e (tc.inj j i d hd (by rw [hd',hx]));show(if d=d' then v else(st i).1 d)=_;rw [if_neg hne];exact ih (by omega) (by omega)
theorem fnone {t:Tmp} : ∀ {i:Nat},(∀j,j<i->aJ ops j≠some t)->i<=ops.size->(st i).1 t=(st 0).1 t:=by
 intro i h hi;induction i with
 |zero=>rfl
 |succ i ih=>
  rcases tc.put (i:=i) (by omega)with⟨_,hu⟩|⟨d',v,hd',_,hu⟩
  ·rw [hu];exact ih (fun j hj=>h j (by omega)) (by omega)
  ·rw [hu];have hne:t≠d':=fun hx=>h i (by omega) (by rw [hd',hx]);show(if t=d' then v else(st i).1 t)=_;rw [if_neg hne];exact ih (fun j hj=>h j (by omega)) (by omega)
theorem quiet1 {i:Nat} {o:Oper} (ho:ops[i]?=some o) (hb:bo o.op=false):(st (i+1)).2=(st i).2:=by
 obtain⟨b,v,_,_,h1,_,h2⟩:=tc.step i o ho;cases b with
 |true=>exact wF hb (h1 rfl).1
 |false=>exact(h2 rfl).2
theorem between {i:Nat} : ∀ {k:Nat},i<=k->k<=ops.size->(∀j o,i<=j->j<k->ops[j]?=some o->bo o.op=false)->(st k).2=(st i).2:=by
 intro k hik hk h;induction k with
 |zero=>
  have:i=0:=by omega
  subst this;rfl
 |succ k ih=>
  by_cases e:i=k+1
  ·subst e;rfl
  ·obtain⟨o,ho,_⟩:=tc.at_ (i:=k) (by omega);rw [tc.quiet1 ho (h k o (by omega) (by omega) ho)];exact ih (by omega) (by omega) (fun j o h1 h2=>h j o h1 (by omega))
end TC
theorem wH {op:Op} (h:lv op=true):(Lb op=false/\pz op=true)\/Lb op=true:=by cases op<;>first|exact .inl ⟨rfl,rfl⟩|exact .inr h|cases h
def bD (ops:Array Oper) (j:Nat):Prop:= ∃o,ops[j]?=some o/\bo o.op=true
open Classical in
noncomputable def lG (ops:Array Oper) (st:Nat->Fr×LH) (m:Nat) (listed:Array Bool):Fr:=fun t=>if∃j,j<ops.size/\LS listed j/\aJ ops j=some t then(if∃j,m<=j/\bD ops j/\aJ ops j=some t then tg else(st ops.size).1 t)else(st 0).1 t
def zk (ops:Array Oper) (listed:Array Bool) (m:Nat):Prop:=m<=ops.size/\(∀j,j<m->bD ops j->LS listed j)/\(m=ops.size\/(bD ops m/\ ¬LS listed m))
theorem TC.agree (tc:TC P T N ops prs st) {listed:Array Bool} (hc:Cl ops listed) {m:Nat} (hm:zk ops listed m) {i:Nat} {o:Oper} (hi:i∈Region.ready .any ops listed) (ho:ops[i]?=some o) {t:Tmp} (ht:t∈Oper.looksAt ops o) (hnew: ∀k o,ops[k]?=some o->bo o.op=true->LS listed k->m<=k->lv o.op=true):lG ops st m listed t=(st i).1 t:=by
 have hilt:=(bX hi).1;unfold lG;by_cases hex: ∃k,aJ ops k=some t
 ·obtain⟨k,hk⟩:=hex;have hks:=zj hk;rcases tc.dep i o t k ho ht hk with⟨h1,h2,h3⟩|⟨h1,h2⟩
  ·have hl:=eS hc hi h2;rw [if_pos ⟨k,hks,hl,hk⟩,if_neg,tc.fdst hk (i:=ops.size) hks (Nat.le_refl _),tc.fdst hk (i:=i) h1 (by omega)];rintro⟨j,hj1,⟨oj,hoj,hbj⟩,hj3⟩;have e:=tc.inj j k t hj3 hk;subst e;rcases hm.2.2 with hm2|⟨⟨om,hom,hbm⟩,hm2⟩
   ·omega
   ·have hmj:m<j:=Nat.lt_of_le_of_ne hj1 (fun e=>hm2 (e▸hl));exact hm2 (eS hc hi (h3 oj hoj (hnew j oj hoj hbj hl hj1) m om hmj hom hbm))
  ·have hno: ¬LS listed k:=fun hl=>by
    have:=kX hc hks hl h2;have h3:=(bX hi).2;unfold LS at this;rw [h3]at this;cases this
   rw [if_neg (fun⟨j,_,hl,hj⟩=>hno (by rw [<-tc.inj j k t hj hk];exact hl))];exact(tc.fnone (fun j hj hd=>by have:=tc.inj j k t hd hk;omega) (by omega)).symm
 ·rw [if_neg (fun⟨j,_,_,hj⟩=>hex ⟨j,hj⟩)];exact(tc.fnone (fun j _ hj=>hex ⟨j,hj⟩) (by omega)).symm
theorem wI {fr:Fr} {a:Act} {H H' HS:LH} {ι:Ren} {o:Oper} {v:Value} {N:Nat} (hfr:bV HS.D ι N fr a.tmps) (h:cY P T o fr H=some (v,H')) (hk:lv o.op=true): ∃b,H'=H.new b/\ ∀w:World,∃w1 slack v',(execOp a.eval o).run P w=.ok (.value v') w1/\NewAt P HS.D ι b w w1 slack/\ ∀(D':Nat->Prop) (ι':Ren),D' H.n->ι' H.n=⟨w.heap.size,0,slack⟩->VR D' ι' v v':=by
 rcases wH hk with⟨hc,ha⟩|hc
 ·rw [ji hc]at h;obtain⟨b,arr,s,g1,g2,g3,g4,g5,g6,g7⟩:=rq (HS:=HS) hfr h ha;refine⟨b,g1,fun w=>?_⟩;obtain⟨v',hrun,hv'⟩:=g7 w;exact⟨_,0,v',hrun,⟨(Change.refl _ w).alloc _,arr,b.elem,(0,0),heap_alloc_new w _,by omega,fun _=>⟨.inl ⟨rfl,rfl⟩,s,g3,g4,g5⟩,g6⟩,hv'⟩
 ·unfold cY at h;rw [if_pos hc]at h;split at h
  ·rename_i s d x ho;obtain⟨b,g1,g2⟩:=mw (D:=HS.D) (ι:=ι) (hfr.ev x) ho h;exact⟨b,g1,g2⟩
  ·cases h
structure Early (P:Program) (ops:Array Oper) (st:Nat->Fr×LH) (H:LH) (ι:Ren) (w0:World) (j:Nat) (A:Nat) (a:Act) (w:World):Prop where
 ex: ∃b arr t f slack,(st (j+1)).2=(st j).2.new b/\b.cells.length<=arr.size/\(b.rw=true->kc P b.elem t f arr.size/\ ∃s,sz P t=some s/\arr.size=b.cells.length+slack*s/\ ∀n,s≠0->b.cells.length=n*s->n+slack<=maxLen)/\
  (∀(i:Nat) x,b.cells[i]?=some x-> ∃y,arr[i]?=some y/\VR H.D ι x y)/\w.heap[A]?=some (.cells arr t f)/\
  ∀d,aJ ops j=some d-> ∀(D':Nat->Prop) (ι':Ren),D' (st j).2.n->ι' (st j).2.n=⟨A,0,slack⟩->VR D' ι' ((st ops.size).1 d) (a.tmps.getD d undef)
 ge:w0.heap.size<=A
 no: ¬lE H ι A
def tB (P:Program) (ops:Array Oper) (st:Nat->Fr×LH) (H:LH) (ι:Ren) (w0:World) (j:Nat) (A:Nat) (a:Act) (w:World):Prop:=
 ((st (j+1)).2=(st j).2/\ ∀d,aJ ops j=some d->ao ((st ops.size).1 d)=true/\a.tmps.getD d undef=(st ops.size).1 d)\/Early P ops st H ι w0 j A a w
end
section
variable {P:Program} {ops:Array Oper} {st:Nat->Fr×LH}
theorem Early.step {H H':LH} {ι ι':Ren} {w0 w w':World} {j A:Nat} {a a':Act} (e:Early P ops st H ι w0 j A a w) (hrel:Rel P H ι w) (ho:Out P H ι w H' ι' w') (ht: ∀d,aJ ops j=some d->a'.tmps.getD d undef=a.tmps.getD d undef):Early P ops st H' ι' w0 j A a' w':=by
 obtain⟨b,arr,t,f,slack,h1,h2,h3,h6,h7,h8⟩:=e.ex;have hlt:=ko h7;have hnrw: ¬RW H ι A:=fun⟨l,b',g1,_,g3⟩=>e.no ⟨l,b',g1,g3⟩;refine⟨⟨b,arr,t,f,slack,h1,h2,h3,fun i x hx=>?_,by rw [ho.chg.block A hlt hnrw];exact h7,fun d hd D' ι2 g1 g2=>by rw [ht d hd];exact h8 d hd D' ι2 g1 g2⟩,e.ge,fun hi=>?_⟩
 ·obtain⟨y,hy,hv⟩:=h6 i x hx;exact⟨y,hy,hv.mono ho.sub ho.same⟩
 ·rcases ho.img A hi with h|h
  ·exact e.no h
  ·omega
end
section
variable [Cvt] {P:Program} {T:Callee} {N:Nat} {ops:Array Oper} {prs:List (Nat×Nat)} {st:Nat->Fr×LH} {r:Fr×LH}
end
section
variable {P:Program} {ops:Array Oper} {st:Nat->Fr×LH}
theorem tB.step {H H':LH} {ι ι':Ren} {w0 w w':World} {j A:Nat} {a a':Act} (e:tB P ops st H ι w0 j A a w) (hrel:Rel P H ι w) (ho:Out P H ι w H' ι' w') (ht: ∀d,aJ ops j=some d->a'.tmps.getD d undef=a.tmps.getD d undef):tB P ops st H' ι' w0 j A a' w':=by
 rcases e with⟨h1,h2⟩|e
 ·exact .inl ⟨h1,fun d hd=>by rw [ht d hd];exact h2 d hd⟩
 ·exact .inr (e.step hrel ho ht)
end
section
variable [Cvt] {P:Program} {T:Callee} {N:Nat} {ops:Array Oper} {prs:List (Nat×Nat)} {st:Nat->Fr×LH} {r:Fr×LH}
end
theorem pD {a:Act} {d:Option Tmp} {d':Tmp} {v:Value} (h:d≠some d'):(a.put d v).tmps.getD d' undef=a.tmps.getD d' undef:=by
 cases d with
 |none=>rfl
 |some d=>
  have hne:d≠d':=fun e=>h (by rw [e]);simp only [Act.put,Array.getD_eq_getD_getElem?];rw [Array.getElem?_setIfInBounds_ne hne]
theorem rC {a:Act} {d:Tmp} {v:Value} (h:d<a.tmps.size):(a.put (some d) v).tmps.getD d undef=v:=by
 simp only [Act.put,Array.getD_eq_getD_getElem?];rw [Array.getElem?_setIfInBounds_self_of_lt h];rfl
section
variable [Cvt] {P:Program} {T:Callee} {N:Nat} {ops:Array Oper} {prs:List (Nat×Nat)} {st:Nat->Fr×LH} {H0:LH} {ι0:Ren} {w0:World} {a0:Act}
theorem mA {fr fr':Fr} {H:LH} {o:Oper} (h: ∀x∈o.op.operands,ev fr x=ev fr' x):cY P T o fr H=cY P T o fr' H:=by
 unfold cY;rw [fH h];obtain⟨dst,op,ty,pos,after,guard⟩:=o;cases op<;>try rfl
 case convert s d x=>
  simp only;rw [h x (by simp [Op.operands])]
theorem DD {fr:Fr} {H H':LH} {o:Oper} {v:Value} {ι:Ren} {w:World} {a:Act} (hT:lz P T) (hrel:Rel P H ι w) (hfr:bV H.D ι N fr a.tmps) (h:cY P T o fr H=some (v,H')):gA P H ι o a w v H':=by
 cases hc:Lb o.op with
 |false=>rw [ji hc]at h;exact pq hT hrel hfr h
 |true=>
  unfold cY at h;rw [if_pos hc]at h;split at h
  ·rename_i s d x ho;exact rm hrel hfr ho h
  ·cases h
def mB (P:Program) (ops:Array Oper) (st:Nat->Fr×LH) (H:LH) (ι:Ren) (w0:World) (j:Nat) (x:Option Nat) (a:Act) (w:World):Prop:=
 match x with
 |none=>(st (j+1)).2=(st j).2/\ ∀d,aJ ops j=some d->ao ((st ops.size).1 d)=true/\a.tmps.getD d undef=(st ops.size).1 d
 |some A=>Early P ops st H ι w0 j A a w
end
section
variable {P:Program} {ops:Array Oper} {st:Nat->Fr×LH} {w0:World}
theorem mB.step {H H':LH} {ι ι':Ren} {w0 w w':World} {j:Nat} {x:Option Nat} {a a':Act} (e:mB P ops st H ι w0 j x a w) (hrel:Rel P H ι w) (ho:Out P H ι w H' ι' w') (ht: ∀d,aJ ops j=some d->a'.tmps.getD d undef=a.tmps.getD d undef):mB P ops st H' ι' w0 j x a' w':=by
 cases x with
 |none=>exact⟨e.1,fun d hd=>by rw [ht d hd];exact e.2 d hd⟩
 |some A=>exact Early.step e hrel ho ht
end
section
variable [Cvt] {P:Program} {T:Callee} {N:Nat} {ops:Array Oper} {prs:List (Nat×Nat)} {st:Nat->Fr×LH} {H0:LH} {ι0:Ren} {w0:World} {a0:Act}
structure InvL (P:Program) (N:Nat) (ops:Array Oper) (st:Nat->Fr×LH) (H0:LH) (ι0:Ren) (w0:World) (m:Nat) (ι:Ren) (listed:Array Bool) (a:Act) (w:World):Prop where
 le:m<=ops.size
 low: ∀j,j<m->bD ops j->LS listed j
 isnew: ∀j o,m<=j->ops[j]?=some o->bo o.op=true->LS listed j->lv o.op=true
 af: ∃Af:Nat->Option Nat,(∀j,m<=j->bD ops j->LS listed j->mB P ops st (st m).2 ι w0 j (Af j) a w)/\ ∀j k A,m<=j->m<=k->bD ops j->bD ops k->LS listed j->LS listed k->j≠k->Af j=some A->Af k≠some A
 out:Out P H0 ι0 w0 (st m).2 ι w
 fr:bV (st m).2.D ι N (lG ops st m listed) a.tmps
theorem wJ {m m':Nat} {listed:Array Bool} (h: ∀j,bD ops j->LS listed j->(m<=j↔m'<=j)) (tc:TC P T N ops prs st):lG ops st m listed=lG ops st m' listed:=by
 funext t;unfold lG;by_cases h1: ∃j,j<ops.size/\LS listed j/\aJ ops j=some t
 ·rw [if_pos h1,if_pos h1];obtain⟨j,hj,hl,hd⟩:=h1;by_cases h2: ∃j,m<=j/\bD ops j/\aJ ops j=some t
  ·obtain⟨k,k1,k2,k3⟩:=h2;have:=tc.inj k j t k3 hd;subst this;rw [if_pos ⟨k,k1,k2,k3⟩,if_pos ⟨k,(h k k2 hl).1 k1,k2,k3⟩]
  ·rw [if_neg h2,if_neg];rintro⟨k,k1,k2,k3⟩;have:=tc.inj k j t k3 hd;subst this;exact h2 ⟨k,(h k k2 hl).2 k1,k2,k3⟩
 ·rw [if_neg h1,if_neg h1]
theorem pE (tc:TC P T N ops prs st) {m m' i:Nat} {o:Oper} {v:Value} {listed:Array Bool} (hi:i<ops.size) (ho:ops[i]?=some o) (hN: ∀d,o.dst=some d->d<N)
  (h: ∀j,j≠i->bD ops j->(m<=j↔m'<=j)) (hv: ∀d,o.dst=some d->(m'<=i/\bD ops i->v=tg)/\(¬(m'<=i/\bD ops i)->v=(st ops.size).1 d)):
  bb N (lG ops st m listed) o.dst v=some (lG ops st m' (listed.setIfInBounds i true)):=by
 have hset: ∀t,(∀d,o.dst=some d->t≠d)->((∃j,j<ops.size/\LS (listed.setIfInBounds i true) j/\aJ ops j=some t)↔ ∃j,j<ops.size/\LS listed j/\aJ ops j=some t):=fun t ht=>by
  constructor
  ·rintro⟨j,h1,h2,h3⟩;rcases Tr.set_iff.1 h2 with h2|h2
   ·exact⟨j,h1,h2,h3⟩
   ·subst h2;have:o.dst=some t:=by simpa [aJ,ho]using h3
    exact absurd rfl (ht t this)
  ·rintro⟨j,h1,h2,h3⟩;exact⟨j,h1,Tr.set_iff.2 (.inl h2),h3⟩
 have hearly: ∀t,(∀d,o.dst=some d->t≠d)->((∃j,m<=j/\bD ops j/\aJ ops j=some t)↔ ∃j,m'<=j/\bD ops j/\aJ ops j=some t):=fun t ht=>by
  have hne: ∀j,aJ ops j=some t->j≠i:=fun j hj e=>by
   subst e;have:o.dst=some t:=by simpa [aJ,ho]using hj
   exact absurd rfl (ht t this)
  constructor
  ·rintro⟨j,h1,h2,h3⟩;exact⟨j,(h j (hne j h3) h2).1 h1,h2,h3⟩
  ·rintro⟨j,h1,h2,h3⟩;exact⟨j,(h j (hne j h3) h2).2 h1,h2,h3⟩
 have old: ∀t,(∀d,o.dst=some d->t≠d)->lG ops st m listed t=lG ops st m' (listed.setIfInBounds i true) t:=fun t ht=>by
  unfold lG;by_cases h1: ∃j,j<ops.size/\LS listed j/\aJ ops j=some t
  ·rw [if_pos h1,if_pos ((hset t ht).2 h1)];by_cases h2: ∃j,m<=j/\bD ops j/\aJ ops j=some t
   ·rw [if_pos h2,if_pos ((hearly t ht).1 h2)]
   ·rw [if_neg h2,if_neg (fun hx=>h2 ((hearly t ht).2 hx))]
  ·rw [if_neg h1,if_neg (fun hx=>h1 ((hset t ht).1 hx))]
 unfold bb;cases hd:o.dst with
 |none=>
  simp only [Option.some.injEq];funext t;exact old t (fun d hd'=>by rw [hd]at hd';cases hd')
 |some d=>
  simp only;rw [if_pos (hN d hd)];simp only [Option.some.injEq];have hdi:aJ ops i=some d:=by simp [aJ,ho,hd]
  funext t;unfold Lg.upd;by_cases e:t=d
  ·subst e;rw [if_pos rfl];obtain⟨v1,v2⟩:=hv t hd;unfold lG;rw [if_pos ⟨i,hi,Tr.set_iff.2 (.inr rfl),hdi⟩];by_cases hc:m'<=i/\bD ops i
   ·rw [if_pos ⟨i,hc.1,hc.2,hdi⟩];exact v1 hc
   ·rw [if_neg]
    ·exact v2 hc
    ·rintro⟨j,h1,h2,h3⟩;have:=tc.inj j i t h3 hdi;subst this;exact hc ⟨h1,h2⟩
  ·rw [if_neg e];exact old t (fun d' hd' e'=>e (by rw [hd]at hd';injection hd' with hd';rw [hd'];exact e'))
theorem RG (tc:TC P T N ops prs st) (hrel0:Rel P H0 ι0 w0) {listed:Array Bool} {a:Act} {w:World} : ∀(n m:Nat) (ι:Ren),ops.size-m<=n->InvL P N ops st H0 ι0 w0 m ι listed a w-> ∃m' ι',InvL P N ops st H0 ι0 w0 m' ι' listed a w/\zk ops listed m':=by
 intro n;induction n with
 |zero=>
  intro m ι hn h;have:=h.le;exact⟨m,ι,h,h.le,h.low,.inl (by omega)⟩
 |succ n ih=>
  intro m ι hn h;by_cases hms:m=ops.size
  ·exact⟨m,ι,h,h.le,h.low,.inl hms⟩
  have hlt:m<ops.size:=by have:=h.le;omega
  by_cases hH:bD ops m
  ·by_cases hl:LS listed m
   ·obtain⟨Af,af1,af2⟩:=h.af
    have hlow: ∀j,j<m+1->bD ops j->LS listed j:=fun j hj hb=>by
     rcases Nat.lt_or_eq_of_le (Nat.le_of_lt_succ hj)with h1|h1
     ·exact h.low j h1 hb
     ·rw [h1];exact hl
    have hframe: ∀t,(∀d,aJ ops m=some d->t≠d)->lG ops st (m+1) listed t=lG ops st m listed t:=fun t ht=>by
     unfold lG
     have:(∃j,m<=j/\bD ops j/\aJ ops j=some t)↔ ∃j,m+1<=j/\bD ops j/\aJ ops j=some t:=by
      constructor
      ·rintro⟨j,h1,h2,h3⟩;rcases Nat.lt_or_eq_of_le h1 with h4|h4
       ·exact⟨j,h4,h2,h3⟩
       ·subst h4;exact absurd rfl (ht t h3)
      ·rintro⟨j,h1,h2,h3⟩;exact⟨j,by omega,h2,h3⟩
     by_cases h1: ∃j,j<ops.size/\LS listed j/\aJ ops j=some t
     ·rw [if_pos h1,if_pos h1];by_cases h2: ∃j,m<=j/\bD ops j/\aJ ops j=some t
      ·rw [if_pos h2,if_pos (this.1 h2)]
      ·rw [if_neg h2,if_neg (fun hx=>h2 (this.2 hx))]
     ·rw [if_neg h1,if_neg h1]
    have hat: ∀d,aJ ops m=some d->lG ops st (m+1) listed d=(st ops.size).1 d:=fun d hd=>by
     unfold lG;rw [if_pos ⟨m,hlt,hl,hd⟩,if_neg];rintro⟨j,h1,_,h3⟩;have:=tc.inj j m d h3 hd;omega
    have he:=af1 m (Nat.le_refl _) hH hl;cases hx:Af m with
    |none=>
     rw [hx]at he;obtain⟨e1,e2⟩:=he;refine ih (m+1) ι (by omega) ⟨hlt,hlow,fun j o hj=>h.isnew j o (by omega),⟨Af,fun j hj hb hlj=>?_,fun j k A hj hk=>af2 j k A (by omega) (by omega)⟩,by rw [e1];exact h.out,h.fr.1,fun t=>?_⟩
     ·rw [e1];exact af1 j (by omega) hb hlj
     ·rw [e1];by_cases ht: ∃d,aJ ops m=some d/\t=d
      ·obtain⟨d,hd,rfl⟩:=ht;obtain⟨f1,f2⟩:=e2 t hd;rw [hat t hd,f2];exact .flat _ f1
      ·rw [hframe t (fun d hd e=>ht ⟨d,hd,e⟩)];exact h.fr.2 t
    |some A=>
     rw [hx]at he;obtain⟨b,arr,t,f,slack,h1,h2,h3,h6,h7,h8'⟩:=Early.ex he
     have hpin: ∀g,g<(st m).2.ng->g≠A:=fun g hg e=>by
      rw [h.out.ng]at hg;have h8:=(hrel0.pin g hg).2.1;have h9:=Early.ge he;omega
     obtain⟨r1,r2,r3,r4,r5⟩:=DC (slack:=slack) h.out.rel h2 h3 h6 h7 (Early.no he) hpin;have hge:=Early.ge he
     have hout:Out P H0 ι0 w0 ((st m).2.new b) (ι.add (st m).2.n ⟨A,0,slack⟩) w:=by
      refine⟨r1,Nat.le_succ_of_le h.out.n,fun l hl=>r2 l (h.out.sub l hl),fun l hl=>(r3 l (h.out.sub l hl)).trans (h.out.same l hl),h.out.chg,fun k hk=>?_,fun k hk=>?_,?_⟩
      ·rcases r4 k hk with g|g
       ·exact h.out.rw k g
       ·exact .inr (by omega)
      ·rcases r5 k hk with g|g
       ·exact h.out.img k g
       ·exact .inr (by omega)
      ·exact h.out.ng
     refine ih (m+1) (ι.add (st m).2.n ⟨A,0,slack⟩) (by omega) ⟨hlt,hlow,fun j o hj=>h.isnew j o (by omega),⟨Af,fun j hj hb hlj=>?_,fun j k A hj hk=>af2 j k A (by omega) (by omega)⟩,by rw [h1];exact hout,h.fr.1,fun t=>?_⟩
     ·rw [h1];have ej:=af1 j (by omega) hb hlj;cases hy:Af j with
      |none=>rw [hy]at ej;exact ej
      |some B=>
       rw [hy]at ej;have hBA:B≠A:=fun e=>af2 m j A (Nat.le_refl _) (by omega) hH hb hl hlj (by omega) hx (by rw [hy,e]);obtain⟨b',arr',t',f',slack',k1,k2,k3,k6,k7,k8⟩:=Early.ex ej
       exact⟨⟨b',arr',t',f',slack',k1,k2,k3,fun i x hx=>by
        obtain⟨y,hy,hv⟩:=k6 i x hx
        exact⟨y,hy,hv.mono r2 r3⟩,k7,k8⟩,Early.ge ej,fun hi=>by
         rcases r5 B hi with g|g
         ·exact Early.no ej g
         ·exact hBA g⟩
     ·rw [h1];by_cases ht: ∃d,aJ ops m=some d/\t=d
      ·obtain⟨d,hd,rfl⟩:=ht;rw [hat t hd];exact h8' _ hd _ _ ((fh h.out.rel _).2 (.inr rfl)) (by simp [Ren.add])
      ·rw [hframe t (fun d hd e=>ht ⟨d,hd,e⟩)];exact(h.fr.2 t).mono r2 r3
   ·exact⟨m,ι,h,h.le,h.low,.inr ⟨hH,hl⟩⟩
  ·obtain⟨o,ho⟩: ∃o,ops[m]?=some o:=⟨_,Array.getElem?_eq_getElem hlt⟩
   have hb:bo o.op=false:=by
    cases hq:bo o.op with
    |false=>rfl
    |true=>exact absurd ⟨o,ho,hq⟩ hH
   have e1:=tc.quiet1 ho hb;have ne: ∀j,bD ops j->(m<=j↔m+1<=j):=fun j hj=>⟨fun hm=>Nat.lt_of_le_of_ne hm (fun e=>hH (e▸hj)),fun hm=>by omega⟩
   obtain⟨Af,af1,af2⟩:=h.af;refine ih (m+1) ι (by omega) ⟨hlt,fun j hj hb'=>h.low j (Nat.lt_of_le_of_ne (Nat.le_of_lt_succ hj) (fun e=>hH (e▸hb'))) hb',fun j o hj=>h.isnew j o (by omega),⟨Af,fun j hj hb' hlj=>by rw [e1];exact af1 j (by omega) hb' hlj,fun j k A hj hk=>af2 j k A (by omega) (by omega)⟩,by rw [e1];exact h.out,?_⟩;rw [e1,<-wJ (m:=m) (m':=m+1) (fun j hj _=>ne j hj) tc];exact h.fr
structure PC (P:Program) (N:Nat) (ops:Array Oper) (st:Nat->Fr×LH) (H0:LH) (ι0:Ren) (w0:World) (a0:Act) (listed:Array Bool) (a:Act) (w:World):Prop where
 size:listed.size=ops.size
 cl:Cl ops listed
 ex: ∃m ι,InvL P N ops st H0 ι0 w0 m ι listed a w/\zk ops listed m
 defers:a.defers=a0.defers
theorem DE (hT:lz P T) (hrel0:Rel P H0 ι0 w0) (tc:TC P T N ops prs st) {listed:Array Bool} {a:Act} {w:World} (pc:PC P N ops st H0 ι0 w0 a0 listed a w) {i:Nat} (hi:i∈Region.ready .any ops listed) {Q:Exit->Act->World->Prop} :
  wpOp P ops Q i (fun a' w'=>PC P N ops st H0 ι0 w0 a0 (listed.setIfInBounds i true) a' w') a w:=by
 obtain⟨hun,o,ho,hall⟩:=mem_ready.1 hi;have hilt:=(bX hi).1;have hnl: ¬LS listed i:=fun h=>by unfold LS at h;rw [hun]at h;cases h
 obtain⟨b,v,hw,hp,h1,h3,h2⟩:=tc.step i o ho;obtain⟨m,ι,hinv,hfirst⟩:=pc.ex;have hout:=hinv.out;have hfr:=hinv.fr;have hag: ∀t∈Oper.looksAt ops o,lG ops st m listed t=(st i).1 t:=fun t ht=>tc.agree pc.cl hfirst hi ho ht (fun k ok hk hb hl hmk=>hinv.isnew k ok hmk hk hb hl);have hev: ∀x∈o.op.operands,ev (lG ops st m listed) x=ev (st i).1 x:=fun x hx=>eh hag x hx;have hwX:aQ ops (lG ops st m listed) o=some b:=(kW hag).trans hw
 have hN: ∀d,o.dst=some d->d<N:=fun d hd=>by
  rw [hd]at hp;simp only [bb]at hp;split at hp
  ·assumption
  ·cases hp
 have hvd: ∀d,o.dst=some d->(st ops.size).1 d=v:=fun d hd=>by
  have hdi:aJ ops i=some d:=by simp [aJ,ho,hd]
  rw [tc.fdst hdi hilt (Nat.le_refl _)];rw [hd]at hp;simp only [bb]at hp;split at hp
  ·simp only [Option.some.injEq]at hp;rw [<-hp];show(if d=d then v else _)=v;rw [if_pos rfl]
  ·cases hp
 have hcl:Cl ops (listed.setIfInBounds i true):=fun j oj hj hl e he hb=>by
  rcases Tr.set_iff.1 hl with h|h
  ·exact Tr.set_iff.2 (.inl (pc.cl j oj hj h e he hb))
  ·subst h;have:oj=o:=Option.some.inj (hj.symm.trans ho);subst this;exact Tr.set_iff.2 (.inl (jg (hall e he hb)))
 have hsz:(listed.setIfInBounds i true).size=ops.size:=by simp [pc.size]
 have bk: ∀k j,j<ops.size->k<ops.size->fE (cO ops.toList []) k j=true->j<k:=by
  intro k;induction k using Nat.strongRecOn with
  |ind k ih=>
   intro j hj hk hx;obtain⟨e,e1,e2,e3,e4⟩:=ot (Array.getElem?_eq_getElem hk) hx;rcases e4 with rfl|e4
   ·exact e3
   ·have:=ih e.on e3 j hj (by omega) e4;omega
 have hone: ∀j,bD ops j->bo o.op=false->j≠i:=fun j ⟨oj,hoj,hbj⟩ hb e=>by
  subst e;have:oj=o:=Option.some.inj (hoj.symm.trans ho);subst this;rw [hb]at hbj;cases hbj
 have dne: ∀ {j:Nat},j≠i-> ∀d,aJ ops j=some d->o.dst≠some d:=fun {j} hj d hd e=>hj (tc.inj j i d hd (by simp [aJ,ho,e]));obtain⟨Af,af1,af2⟩:=hinv.af
 have quiet:bo o.op=false-> ∀(v':Value) (w':World) (ι':Ren),Out P (st m).2 ι w (st m).2 ι' w'->VR (st m).2.D ι' v v'->PC P N ops st H0 ι0 w0 a0 (listed.setIfInBounds i true) (a.put o.dst v') w':=fun hb v' w' ι' ho2 hvr=>by
  have hput:=pE (m:=m) (m':=m) (v:=v) (listed:=listed) tc hilt ho hN (fun j _ _=>Iff.rfl) (fun d hd=>⟨fun hc=>absurd rfl (hone i hc.2 hb),fun _=>(hvd d hd).symm⟩);refine⟨hsz,hcl,⟨m,ι',⟨hinv.le,fun j hj hbj=>Tr.set_iff.2 (.inl (hinv.low j hj hbj)),fun j oj hmj hj hbj hl=>?_,⟨Af,fun j hmj hbj hl=>?_,fun j k A hj hk hbj hbk hl1 hl2=>?_⟩,hout.trans ho2,(hfr.mono ho2.sub ho2.same).put hput hvr⟩,hfirst.1,fun j hj hbj=>Tr.set_iff.2 (.inl (hfirst.2.1 j hj hbj)),?_⟩,by rw [put_defers];exact pc.defers⟩
  ·rcases Tr.set_iff.1 hl with h|h
   ·exact hinv.isnew j oj hmj hj hbj h
   ·exact absurd h.symm (hone j ⟨oj,hj,hbj⟩ hb)
  ·rcases Tr.set_iff.1 hl with h|h
   ·exact(af1 j hmj hbj h).step hout.rel ho2 (fun d hd=>pD (dne (hone j hbj hb) d hd))
   ·exact absurd h.symm (hone j hbj hb)
  ·rcases Tr.set_iff.1 hl1 with h|h
   ·rcases Tr.set_iff.1 hl2 with h'|h'
    ·exact af2 j k A hj hk hbj hbk h h'
    ·exact absurd h'.symm (hone k hbk hb)
   ·exact absurd h.symm (hone j hbj hb)
  ·rcases hfirst.2.2 with h|⟨h,h'⟩
   ·exact .inl h
   ·refine .inr ⟨h,fun hx=>?_⟩;rcases Tr.set_iff.1 hx with g|g
    ·exact h' g
    ·exact hone m h hb g.symm
 have first:bo o.op=true->i=m-> ∀(v':Value) (w':World) (ι':Ren),Out P (st m).2 ι w (st (m+1)).2 ι' w'->VR (st (m+1)).2.D ι' v v'->PC P N ops st H0 ι0 w0 a0 (listed.setIfInBounds i true) (a.put o.dst v') w':=fun hb him v' w' ι' ho2 hvr=>by
  subst him;have hput:=pE (m:=i) (m':=i+1) (v:=v) (listed:=listed) tc hilt ho hN (fun j hj _=>⟨fun h=>Nat.lt_of_le_of_ne h (fun e=>hj e.symm),fun h=>by omega⟩) (fun d hd=>⟨fun hc=>absurd hc.1 (by omega),fun _=>(hvd d hd).symm⟩)
  have hl2:InvL P N ops st H0 ι0 w0 (i+1) ι' (listed.setIfInBounds i true) (a.put o.dst v') w':=by
   refine⟨hilt,fun j hj hbj=>?_,fun j oj hmj hj hbj hl=>?_,⟨Af,fun j hmj hbj hl=>?_,fun j k A hj hk hbj hbk hl1 hl2=>?_⟩,hout.trans ho2,(hfr.mono ho2.sub ho2.same).put hput hvr⟩
   ·rcases Nat.lt_or_eq_of_le (Nat.le_of_lt_succ hj)with h|h
    ·exact Tr.set_iff.2 (.inl (hinv.low j h hbj))
    ·exact Tr.set_iff.2 (.inr h.symm)
   ·rcases Tr.set_iff.1 hl with h|h
    ·exact hinv.isnew j oj (by omega) hj hbj h
    ·omega
   ·rcases Tr.set_iff.1 hl with h|h
    ·exact(af1 j (by omega) hbj h).step hout.rel ho2 (fun d hd=>pD (dne (by omega) d hd))
    ·omega
   ·rcases Tr.set_iff.1 hl1 with h|h
    ·rcases Tr.set_iff.1 hl2 with h'|h'
     ·exact af2 j k A (by omega) (by omega) hbj hbk h h'
     ·omega
    ·omega
  obtain⟨m',ι2,k1,k2⟩:=RG tc hrel0 _ _ _ (Nat.le_refl _) hl2;exact⟨hsz,hcl,⟨m',ι2,k1,k2⟩,by rw [put_defers];exact pc.defers⟩
 have early:bo o.op=true->i≠m->m<i/\lv o.op=true/\ ∀(v':Value) (w':World) (x:Option Nat),Out P (st m).2 ι w (st m).2 ι w'->mB P ops st (st m).2 ι w0 i x (a.put o.dst v') w'->(∀A,x=some A-> ∀j,Af j=some A->m<=j->bD ops j->LS listed j->False)->PC P N ops st H0 ι0 w0 a0 (listed.setIfInBounds i true) (a.put o.dst v') w':=fun hb him=>by
  have hHi:bD ops i:=⟨o,ho,hb⟩
  have hmi:m<i:=by
   rcases Nat.lt_or_ge i m with h|h
   ·exact absurd (hinv.low i h hHi) hnl
   ·omega
  obtain⟨⟨om,hom,hbm⟩,hml⟩:bD ops m/\ ¬LS listed m:=by
   rcases hfirst.2.2 with h|h
   ·omega
   ·exact h
  have hms:=(Array.getElem?_eq_some_iff.1 hom).1
  have hnew:lv o.op=true:=by
   rcases tc.heap i m o om ho hom hb him with hx|hx|hx|hx|hx
   ·exact absurd (eS pc.cl hi hx) hml
   ·have:=bk m i hilt hms hx;omega
   ·exact hx.2.2
   ·omega
   ·rw [hx.1]at hbm;cases hbm
  refine⟨hmi,hnew,fun v' w' x ho2 he hdis=>?_⟩;have hput:=pE (m:=m) (m':=m) (v:=tg) (listed:=listed) tc hilt ho hN (fun j _ _=>Iff.rfl) (fun d hd=>⟨fun _=>rfl,fun hc=>absurd ⟨by omega,hHi⟩ hc⟩);refine⟨hsz,hcl,⟨m,ι,⟨hinv.le,fun j hj hbj=>Tr.set_iff.2 (.inl (hinv.low j hj hbj)),fun j oj hmj hj hbj hl=>?_,⟨fun j=>if j=i then x else Af j,fun j hmj hbj hl=>?_,fun j k A hj hk hbj hbk hl1 hl2 hjk hA=>?_⟩,hout.trans ho2,(hfr.mono ho2.sub ho2.same).put hput (.any _)⟩,hfirst.1,fun j hj hbj=>Tr.set_iff.2 (.inl (hfirst.2.1 j hj hbj)),.inr ⟨⟨om,hom,hbm⟩,fun hx=>?_⟩⟩,by rw [put_defers];exact pc.defers⟩
  ·rcases Tr.set_iff.1 hl with h|h
   ·exact hinv.isnew j oj hmj hj hbj h
   ·subst h;have:oj=o:=Option.some.inj (hj.symm.trans ho);subst this;exact hnew
  ·by_cases hji:j=i
   ·subst hji;simp only [if_true];exact he
   ·simp only [if_neg hji];rcases Tr.set_iff.1 hl with h|h
    ·exact(af1 j hmj hbj h).step hout.rel ho2 (fun d hd=>pD (dne hji d hd))
    ·exact absurd h.symm hji
  ·by_cases hji:j=i
   ·subst hji;simp only [if_true]at hA;show(if k=j then x else Af k)≠some A;rw [if_neg (Ne.symm hjk)];rcases Tr.set_iff.1 hl2 with h|h
    ·exact fun hk'=>hdis A hA k hk' hk hbk h
    ·exact absurd h hjk
   ·simp only [if_neg hji]at hA;rcases Tr.set_iff.1 hl1 with h|h
    ·by_cases hki:k=i
     ·subst hki;simp only [if_true];exact fun hx=>hdis A hx j hA hj hbj h
     ·show(if k=i then x else Af k)≠some A;rw [if_neg hki];rcases Tr.set_iff.1 hl2 with h'|h'
      ·exact af2 j k A hj hk hbj hbk h h' hjk hA
      ·exact absurd h'.symm hki
    ·exact absurd h.symm hji
  ·rcases Tr.set_iff.1 hx with g|g
   ·exact hml g
   ·exact him g
 unfold wpOp;simp only [ho];cases b with
 |false=>
  obtain⟨hv,hH⟩:=h2 rfl;rw [if_neg (by rw [cT hfr hwX];simp)];subst hv;cases hb:bo o.op with
  |false=>exact quiet hb undef w ι (Out.refl hout.rel) (.flat _ rfl)
  |true=>
   by_cases him:i=m
   ·exact first hb him undef w ι (by rw [<-him,hH,him];exact Out.refl hout.rel) (.flat _ rfl)
   ·obtain⟨_,_,k⟩:=early hb him;refine k undef w none (Out.refl hout.rel) ⟨hH,fun d hd=>?_⟩ (fun A hA=>by cases hA);have hd':o.dst=some d:=by simpa [aJ,ho]using hd
    rw [hvd d hd',hd'];exact⟨rfl,rC (by rw [hfr.1];exact hN d hd')⟩
 |true=>
  obtain⟨hop,hR⟩:=h1 rfl;rw [if_pos (cT hfr hwX)];left;cases hb:bo o.op with
  |true=>
   by_cases him:i=m
   ·rw [<-mA hev,him]at hop;exact DD hT hout.rel hfr hop _ _ (fun ι' v' w' ho2 hvr=>first hb him v' w' ι' ho2 hvr)
   ·obtain⟨hmi,hnew,k⟩:=early hb him;rw [<-mA hev]at hop;obtain⟨b,g1,g2⟩:=wI (HS:=(st m).2) hfr hop hnew;obtain⟨w1,slack,v',hrun,⟨hch,arr,t,f,g3,g4,g5,g6⟩,hv'⟩:=g2 w;unfold Oper.wp;rw [hrun];simp only [Oper.upon];have hout2:=c_ hout.rel hch;have hwlt:w0.heap.size<=w.heap.size:=hout.chg.size;refine k v' _ (some w.heap.size) hout2 ⟨⟨b,arr,t,f,slack,g1,g4,g5,fun i x hx=>?_,g3,fun d hd D' ι' q1 q2=>?_⟩,hwlt,fun hi=>?_⟩ (fun A hA j hAj hmj hbj hlj=>?_)
    ·exact g6 i x hx
    ·have hd':o.dst=some d:=by simpa [aJ,ho]using hd
     rw [hvd d hd',hd',rC (by rw [hfr.1];exact hN d hd')];exact hv' D' ι' q1 q2
    ·obtain⟨l,b',e1,e2⟩:=hi;obtain⟨arr',t,f,hw',_⟩:=hout.rel.blk l b' e1;have:=ko hw';omega
    ·injection hA with hA;have ej:=af1 j hmj hbj hlj;rw [hAj]at ej;obtain⟨_,_,_,_,_,_,_,_,_,e7,_⟩:=Early.ex ej;have:=ko e7;omega
  |false=>
   rw [ji (Gy hb)]at hop
   have hnow:bS P T o (st i).1 (st m).2=some (v,(st m).2):=by
    cases hrd:Io o.op with
    |false=>exact zi hb hrd hop _
    |true=>
     have hsame:=rB hb hop;rw [hsame]at hop;rcases Nat.lt_or_ge m i with h|h
     ·
      obtain⟨⟨om,hom,hbm⟩,hml⟩:bD ops m/\ ¬LS listed m:=by
       rcases hfirst.2.2 with h'|h'
       ·omega
       ·exact h'
      have hms:=(Array.getElem?_eq_some_iff.1 hom).1;rcases tc.heap m i om o hom ho hbm (by omega)with hx|hx|hx|hx|hx
      ·have:=bk m i hilt hms hx;omega
      ·exact absurd (eS pc.cl hi hx) hml
      ·rw [hb]at hx;cases hx.1
      ·rw [hb]at hx;cases hx.1
      ·rcases hx.2 with hx2|hx2
       ·rw [hrd]at hx2;cases hx2
       ·exact Gz (hR m hx2 h)
     ·by_cases hex: ∃j oj,i<=j/\j<m/\ops[j]?=some oj/\bo oj.op=true
      ·
       have: ∃j,(∃oj,i<=j/\j<m/\ops[j]?=some oj/\bo oj.op=true)/\ ∀k,j<k-> ¬ ∃oj,i<=k/\k<m/\ops[k]?=some oj/\bo oj.op=true:=by
        obtain⟨j,oj,hj⟩:=hex
        have: ∀n j,m-j<n->(∃oj,i<=j/\j<m/\ops[j]?=some oj/\bo oj.op=true)-> ∃j,(∃oj,i<=j/\j<m/\ops[j]?=some oj/\bo oj.op=true)/\ ∀k,j<k-> ¬ ∃oj,i<=k/\k<m/\ops[k]?=some oj/\bo oj.op=true:=by
         intro n;induction n with
         |zero=>intro j hj;omega
         |succ n ih=>
          intro j hjn hj;by_cases hk: ∃k,j<k/\ ∃oj,i<=k/\k<m/\ops[k]?=some oj/\bo oj.op=true
          ·obtain⟨k,hkj,hk⟩:=hk;refine ih k ?_ hk;obtain⟨_,_,hkm,_⟩:=hk;omega
          ·exact⟨j,hj,fun k hkj hx=>hk ⟨k,hkj,hx⟩⟩
        exact this (m-j+1) j (Nat.lt_succ_self _) ⟨oj,hj⟩
       obtain⟨j,⟨oj,hij,hjm,hj,hbj⟩,hlast⟩:=this;have hjs:=(Array.getElem?_eq_some_iff.1 hj).1;have hjl:=hinv.low j hjm ⟨oj,hj,hbj⟩;have hji:j≠i:=fun e=>hnl (e▸hjl)
       have e:(st m).2=(st (j+1)).2:=tc.between (by omega) hinv.le (fun k ok hjk hkm hk=>by
        cases hbk:bo ok.op with
        |false=>rfl
        |true=>exact absurd ⟨ok,by omega,hkm,hk,hbk⟩ (hlast k (by omega)))
       rw [e];rcases tc.heap j i oj o hj ho hbj hji with hx|hx|hx|hx|hx
       ·exact absurd (kX pc.cl hjs hjl hx) hnl
       ·have:=bk i j hjs hilt hx;omega
       ·rw [hb]at hx;cases hx.1
       ·rw [hb]at hx;cases hx.1
       ·rcases hx.2 with hx2|hx2
        ·rw [hrd]at hx2;cases hx2
        ·obtain⟨bj,vj,hwj,hpj,k1,k2,_⟩:=tc.step j oj hj;obtain⟨d,hd⟩:=tc.rdst i o ho hrd;have:=k2 i hx2 (by omega) o d ho hd hw;have hdi:aJ ops i=some d:=by simp [aJ,ho,hd]
         have hvj:(st (j+1)).1 d=v:=by
          rw [<-hvd d hd,tc.fdst hdi (i:=j+1) (by omega) (by omega),tc.fdst hdi (i:=ops.size) hilt (Nat.le_refl _)]
         rw [hvj]at this;exact Gz this
      ·have e:(st m).2=(st i).2:=tc.between h hinv.le (fun j oj h3 h4 hj=>by
        cases hbj:bo oj.op with
        |false=>rfl
        |true=>exact absurd ⟨j,oj,h3,h4,hj,hbj⟩ hex)
       rw [e];exact hop
   rw [<-fH hev]at hnow;exact pq hT hout.rel hfr hnow _ _ (fun ι' v' w' ho2 hvr=>quiet hb v' w' ι' ho2 hvr)
theorem gX {H H':LH} {fr fr':Fr} {ι:Ren} {w:World} {a:Act} (hT:lz P T) (hB:kb ops prs=true) (h:aY P T N ops prs 0 (fun _=>(fr,H)) ops.toList fr H=some (fr',H')) (hrel:Rel P H ι w) (hfr:bV H.D ι N fr a.tmps) {Q:Exit->Act->World->Prop}
  (hQ: ∀ι' a' w',Out P H ι w H' ι' w'->bV H'.D ι' N fr' a'.tmps->a'.defers=a.defers->Q .normal a' w'):wpAny P .any ops Q ops.size (Array.replicate ops.size false) a { w with drawn:=w.drawn+1 } :=by
 obtain⟨st,_,s0,s1,s2⟩:=pC ops.toList 0 _ fr H (by simp) (Nat.zero_le _) h;have tc:=wG hB (fun i o ho=>s2 i (Nat.zero_le _) o ho);have hw:Change (fun _=>False) w { w with drawn:=w.drawn+1 } :=⟨rfl,rfl,rfl,Nat.le_refl _,fun _ _ _=>rfl⟩
 have hout0:=c_ hrel hw;refine kh (Inv:=PC P N ops st H ι w a) (fun listed a' w' pc i hi=>DE hT hrel tc pc hi) ?_ _ _ _ _ ?_ ?_
 ·rintro listed a' w' ⟨hsz,hcl,⟨m,ι',hinv,hfirst⟩,hd⟩ hr
  have all: ∀n j,j<n->j<ops.size->LS listed j:=by
   intro n;induction n with
   |zero=>intro j hj;omega
   |succ n ih=>
    intro j hjn hjs;refine Classical.byContradiction (fun hno=>?_)
    have hf:listed.getD j true=false:=by
     rcases dF (listed:=listed) (k:=j)with h1|h1
     ·exact absurd h1 hno
     ·exact h1
    have:j∈Region.ready .any ops listed:=by
     refine mem_ready.2 ⟨hf,_,Array.getElem?_eq_getElem hjs,fun e he hb=>?_⟩;have hlt:=tc.back j _ (Array.getElem?_eq_getElem hjs) e he hb;exact jh (by rw [hsz];omega) (ih e.on (by omega) (by omega))
    rw [hr]at this;cases this
  have hmn:m=ops.size:=by
   rcases hfirst.2.2 with h1|⟨⟨om,hom,_⟩,h1⟩
   ·exact h1
   ·exact absurd (all (m+1) m (Nat.lt_succ_self _) (Array.getElem?_eq_some_iff.1 hom).1) h1
  subst hmn
  have e2:lG ops st ops.size listed=(st ops.size).1:=by
   funext t;unfold lG;split
   ·rw [if_neg];rintro⟨j,h1,_,h3⟩;have:=zj h3;omega
   ·rename_i hno;exact(tc.fnone (fun j hj hd=>hno ⟨j,hj,all (j+1) j (Nat.lt_succ_self _) hj,hd⟩) (Nat.le_refl _)).symm
  have hout:=hinv.out;have hf:=hinv.fr;rw [s1]at hout hf;rw [e2,s1]at hf;exact hQ ι' a' w' hout hf hd
 ·unfold iD;refine Nat.le_trans List.countP_le_length ?_;simp
 ·have hno: ∀j,j<ops.size-> ¬LS (Array.replicate ops.size false) j:=fun j hj h=>by unfold LS at h;simp [hj]at h
  have hno2: ∀j,bD ops j-> ¬LS (Array.replicate ops.size false) j:=fun j ⟨oj,hj,_⟩=>hno j (Array.getElem?_eq_some_iff.1 hj).1
  have e:lG ops st 0 (Array.replicate ops.size false)=fr:=by
   funext t;unfold lG;rw [if_neg (fun⟨j,hj,hl,_⟩=>hno j hj hl),s0]
  have hl:InvL P N ops st H ι w 0 ι (Array.replicate ops.size false) a { w with drawn:=w.drawn+1 } :=
   ⟨Nat.zero_le _,fun j hj=>by omega,fun j oj _ hj hb hl=>absurd hl (hno2 j ⟨oj,hj,hb⟩),⟨fun _=>none,fun j _ hb hl=>absurd hl (hno2 j hb),fun j k A _ _ hb _ hl=>absurd hl (hno2 j hb)⟩,by rw [s0];exact hout0,by rw [e,s0];exact hfr⟩
  obtain⟨m',ι2,k1,k2⟩:=RG tc hrel _ _ _ (Nat.le_refl _) hl;exact⟨by simp,fun j oj hj hl=>absurd hl (hno j (Array.getElem?_eq_some_iff.1 hj).1),⟨m',ι2,k1,k2⟩,rfl⟩
end
section
variable {P:Program} {T:Callee} {p:List Nat} {ops:Array Oper} {Q:Exit->Act->World->Prop}
structure PermOk (p:List Nat) (ops:Array Oper):Prop where
 len:p.length=ops.size
 q: ∀i,i<ops.size->eC p i<ops.size/\p.getD (eC p i) ops.size=i
 r: ∀k,k<ops.size->p.getD k ops.size<ops.size/\eC p (p.getD k ops.size)=k
 edge: ∀(i:Nat) (o:Oper),ops[i]?=some o-> ∀e∈o.after,e.on<ops.size
 guard: ∀(i:Nat) (o:Oper),ops[i]?=some o-> ∀g b,o.guard=some (g,b)->g<ops.size
theorem tC (h:qX p ops=true):p= []\/PermOk p ops:=by
 unfold qX at h;rw [Bool.or_eq_true]at h;rcases h with h|h
 ·exact .inl (by simpa using h)
 ·right;simp only [Bool.and_eq_true,beq_iff_eq]at h;obtain⟨⟨h1,h2⟩,h3⟩:=h;have h2:=fun i (hi:i<ops.size)=>List.all_eq_true.1 h2 i (List.mem_range.2 hi);simp only [Bool.and_eq_true,beq_iff_eq,decide_eq_true_eq]at h2;have h3:=fun(i:Nat) (o:Oper) (ho:ops[i]?=some o)=>List.all_eq_true.1 h3 o (Array.mem_toList_iff.2 (Array.mem_of_getElem? ho));simp only [Bool.and_eq_true]at h3;refine⟨h1,fun i hi=>⟨(h2 i hi).1.1.1,(h2 i hi).1.1.2⟩,fun k hk=>⟨(h2 k hk).1.2,(h2 k hk).2⟩,fun i o ho e he=>?_,fun i o ho g b hg=>?_⟩
  ·have:=List.all_eq_true.1 (h3 i o ho).1 e (Array.mem_toList_iff.2 he);simpa using this
  ·have:=(h3 i o ho).2;rw [hg]at this;simpa using this
theorem vr: ∀(l:List Oper) (i:Nat),i<l.length->l[i]?=some (qW l i)
 | [],i,h=>by simp at h
 |o::l,0,_=>rfl
 |o::l,i+1,h=>by rw [List.getElem?_cons_succ];exact vr l i (by simpa using h)
theorem pF (l:List Oper): ∀is:List Nat,pmap p l is=is.map fun i=>lx p (qW l i)
 | []=>rfl
 |i::is=>by simp only [pmap,List.map_cons,pF l is]
theorem jj (h:PermOk p ops) (hp:p≠ []) {i:Nat} {o:Oper} (ho:ops[i]?=some o):(⟨dD p ops.toList⟩:Array Oper)[eC p i]?=some (lx p o):=by
 have hi:=(Array.getElem?_eq_some_iff.1 ho).1;obtain⟨h1,h2⟩:=h.q i hi
 have e:dD p ops.toList=pmap p ops.toList p:=by
  cases p with
  |nil=>exact absurd rfl hp
  |cons a p=>rfl
 rw [e,pF];rw [List.getElem?_toArray,List.getElem?_map]
 have h3:p[eC p i]?=some i:=by
  rw [List.getD_eq_getElem?_getD]at h2;have hlt:eC p i<p.length:=by rw [h.len];exact h1
  rw [List.getElem?_eq_getElem hlt]at h2⊢;simpa using h2
 rw [h3];have h4:=vr ops.toList i (by simpa using hi);rw [Array.getElem?_toList,ho]at h4;injection h4 with h4;simp only [Option.map_some,<-h4]
theorem ov (h:PermOk p ops) (hp:p≠ []):(⟨dD p ops.toList⟩:Array Oper).size=ops.size:=by
 have e:dD p ops.toList=pmap p ops.toList p:=by
  cases p with
  |nil=>exact absurd rfl hp
  |cons a p=>rfl
 rw [e,pF,<-h.len];simp
theorem zl (o:Oper):(lx p o).dst=o.dst:=rfl
theorem DF (o:Oper) (a:Act) (w:World) (K:Act->World->Prop):(lx p o).wp P a w K Q=o.wp P a w K Q:=rfl
theorem wK (o:Oper) (a:Act) (w:World):(lx p o).asks P a w=o.asks P a w:=rfl
theorem pG (h:PermOk p ops) (hp:p≠ []) {g:Nat} (hg:g<ops.size) (tmps:Array Value):yielded ⟨dD p ops.toList⟩ tmps (eC p g)=yielded ops tmps g:=by
 unfold yielded;rw [jj h hp (Array.getElem?_eq_getElem hg),Array.getElem?_eq_getElem hg];rfl
theorem rD (h:PermOk p ops) (hp:p≠ []) {i:Nat} {o:Oper} (ho:ops[i]?=some o) (tmps:Array Value):Region.wanted (lx p o) (yielded ⟨dD p ops.toList⟩ tmps)=Region.wanted o (yielded ops tmps):=by
 unfold Region.wanted;have hgd:=h.guard i o ho;have e:(lx p o).guard=M4 p o.guard:=rfl;rw [e];cases hg:o.guard with
 |none=>rfl
 |some x=>
  obtain⟨g,b⟩:=x;show(yielded _ _ _==some b)=(yielded _ _ _==some b);rw [pG h hp (hgd g b hg)]
theorem DG (h:PermOk p ops) (hp:p≠ []) {i:Nat} {o:Oper} (ho:ops[i]?=some o) {K:Act->World->Prop} {a:Act} {w:World} (hw:wpOp P ⟨dD p ops.toList⟩ Q (eC p i) K a w):wpOp P ops Q i K a w:=by
 unfold wpOp at hw⊢;rw [jj h hp ho]at hw;simp only [ho];simp only [rD h hp ho,DF,wK,zl]at hw;exact hw
theorem mC (o:Oper):(lx p o).after=o.after.map fun e=>⟨eC p e.on,e.ground⟩:=rfl
theorem iF (h:PermOk p ops) (hp:p≠ []) {l l':Array Bool} (hs:l.size=ops.size) (hs':l'.size=ops.size) (hl: ∀i,i<ops.size->l'.getD (eC p i) true=l.getD i true) {i:Nat} :i<ops.size->(i∈Region.ready .any ops l↔eC p i∈Region.ready .any ⟨dD p ops.toList⟩ l'):=by
 intro hi;have ho:=Array.getElem?_eq_getElem hi
 have tf: ∀k,k<ops.size->(l.getD k false=true↔l'.getD (eC p k) false=true):=fun k hk=>by
  have h1:=hl k hk;have hk':=(h.q k hk).1;rw [Array.getD_eq_getD_getElem?,Array.getD_eq_getD_getElem?,Array.getElem?_eq_getElem (by omega),Array.getElem?_eq_getElem (by omega)]at h1⊢;simp only [Option.getD_some]at h1⊢;rw [h1]
 constructor
 ·intro hr;obtain⟨h1,o,ho,h2⟩:=mem_ready.1 hr;refine mem_ready.2 ⟨by rw [hl i hi];exact h1,_,jj h hp ho,fun e he hb=>?_⟩;rw [mC]at he;obtain⟨e0,he0,rfl⟩:=Array.mem_map.1 he;exact(tf _ (h.edge i o ho e0 he0)).1 (h2 e0 he0 hb)
 ·intro hr;obtain⟨h1,o',ho',h2⟩:=mem_ready.1 hr;rw [jj h hp ho]at ho';injection ho' with ho';subst ho';refine mem_ready.2 ⟨by rw [<-hl i hi];exact h1,_,ho,fun e he hb=>?_⟩;exact(tf _ (h.edge i _ ho e he)).2 (h2 ⟨eC p e.on,e.ground⟩ (by rw [mC];exact Array.mem_map.2 ⟨e,he,rfl⟩) hb)
theorem zm (h:PermOk p ops) (hp:p≠ []): ∀(fuel:Nat) (l l':Array Bool) (a:Act) (w:World),l.size=ops.size->l'.size=ops.size->(∀i,i<ops.size->l'.getD (eC p i) true=l.getD i true)->wpAny P .any ⟨dD p ops.toList⟩ Q fuel l' a w->wpAny P .any ops Q fuel l a w:=by
 have nil: ∀l l':Array Bool,l.size=ops.size->l'.size=ops.size->(∀i,i<ops.size->l'.getD (eC p i) true=l.getD i true)->(Region.ready .any ops l= []↔Region.ready .any ⟨dD p ops.toList⟩ l'= []):=by
  intro l l' hs hs' hl;rw [List.eq_nil_iff_forall_not_mem,List.eq_nil_iff_forall_not_mem];constructor
  ·intro hn k hk;have hk1:=(bX hk).1;rw [ov h hp]at hk1;obtain⟨h1,h2⟩:=h.r k hk1;refine hn _ ((iF h hp hs hs' hl h1).2 ?_);rw [h2];exact hk
  ·intro hn i hi;exact hn _ ((iF h hp hs hs' hl (bX hi).1).1 hi)
 intro fuel;induction fuel with
 |zero=>intro l l' a w hs hs' hl hw;exact⟨(nil l l' hs hs' hl).2 hw.1,hw.2⟩
 |succ fuel ih=>
  intro l l' a w hs hs' hl hw;refine⟨fun hn=>hw.1 ((nil l l' hs hs' hl).1 hn),fun i hi=>?_⟩;have hi1:=(bX hi).1;refine wpOp_mono (fun a' w' h'=>ih _ _ a' w' (by simpa using hs) (by simpa using hs') (fun k hk=>?_) h') (DG h hp (Array.getElem?_eq_getElem hi1) (hw.2 _ ((iF h hp hs hs' hl hi1).1 hi)));by_cases e:i=k
  ·subst e;rw [bR,bR]
  ·have e2:eC p i≠eC p k:=fun e3=>e (by rw [<-(h.q i hi1).2,e3,(h.q k hk).2]);rw [getD_set_ne true e,getD_set_ne true e2];exact hl k hk
theorem mD [Cvt] {prs:List (Nat×Nat)} {N:Nat} {H H':LH} {fr fr':Fr} {ι:Ren} {w:World} {a:Act} (hT:lz P T) (hp:qX p ops=true) (hB:kb ⟨dD p ops.toList⟩ prs=true) (h:aY P T N ⟨dD p ops.toList⟩ prs 0 (fun _=>(fr,H)) (dD p ops.toList) fr H=some (fr',H')) (hrel:Rel P H ι w) (hfr:bV H.D ι N fr a.tmps)
  (hQ: ∀ι' a' w',Out P H ι w H' ι' w'->bV H'.D ι' N fr' a'.tmps->a'.defers=a.defers->Q .normal a' w'):wpAny P .any ops Q ops.size (Array.replicate ops.size false) a { w with drawn:=w.drawn+1 } :=by
 rcases tC hp with rfl|ho
 ·exact gX hT hB h hrel hfr hQ
 ·by_cases hn:p= []
  ·subst hn;exact gX hT hB h hrel hfr hQ
  ·have h1:=gX (Q:=Q) hT hB h hrel hfr hQ;rw [ov ho hn]at h1;exact zm ho hn _ _ _ _ _ (by simp) (by simp) (fun i hi=>by simp [hi,(ho.q i hi).1]) h1
theorem wL [Cvt] {prs:List (Nat×Nat)} {N:Nat} {H H':LH} {fr fr':Fr} {ι:Ren} {w:World} {a:Act} (hT:lz P T) (hm:P.follows .mixedOrders=true) (hp:qX p ops=true) (hB:kb ⟨dD p ops.toList⟩ prs=true) (h:aY P T N ⟨dD p ops.toList⟩ prs 0 (fun _=>(fr,H)) (dD p ops.toList) fr H=some (fr',H')) (hrel:Rel P H ι w) (hfr:bV H.D ι N fr a.tmps) (id:Nat)
  (hQ: ∀ι' a' w',Out P H ι w H' ι' w'->bV H'.D ι' N fr' a'.tmps->a'.defers=a.defers->Q .normal a' w'):(Code.region id ops true).wp P Q a w:=
 wp_region_any hm (mD hT hp hB h hrel hfr hQ)
end
def gC (L:Loud) (N:Nat):Item->Bool
 |.code c=>codeOk L N c
 |.inLoop c=>codeOk L N c
 |_=>true
theorem vt {L:Loud} {N id:Nat} : ∀ {k k':List Item},exitTo id k=some k'->(∀x∈k,gC L N x=true)-> ∀x∈k',gC L N x=true
 | [],k',h,_=>by simp [exitTo]at h
 |y::k,k',h,hk=>by
  have ih:=@vt L N id k k';have hk2: ∀x∈k,gC L N x=true:=fun x hx=>hk x (List.mem_cons_of_mem _ hx);unfold exitTo at h;split at h
  ·rename_i e;injection e with e1 e2;subst e2;split at h
   ·injection h with h;subst h;exact hk2
   ·exact ih h hk2
  ·rename_i e;injection e with e1 e2;subst e2;exact ih h hk2
  ·rename_i e;cases e
section
variable {P:Program} {L:Loud} {T:Callee} {H H':LH} {ι:Ren} {a:Act} {w:World} {v v':Value} {fr fr':Fr} {fn:Func}
theorem wM (hrel:Rel P H ι w) {N:Nat} (hfr:bV H.D ι N fr a.tmps) {r:ResultVar} (h:dB P fr H r=some v):
  ∃v',(match r with|.tmp t=>pure (a.tmps.getD t undef)|.cell x t=>do loadVar t (<-asAddr (a.tmps.getD x undef)):Sem Value).run P w=.ok v' w/\VR H.D ι v v':=by
 cases r with
 |tmp t=>
  simp only [dB,Option.some.injEq]at h;subst h;exact⟨_,rfl,hfr.2 t⟩
 |cell x t=>
  simp only [dB]at h;split at h
  ·rename_i l off e;have h1:=hfr.2 x;rw [e]at h1;obtain⟨_,h2⟩:=iC h1;obtain⟨v',hr,hv⟩:=mg hrel h;refine⟨v',?_,hv⟩;show(do loadVar t (<-asAddr (a.tmps.getD x undef)):Sem Value).run P w=_;rw [h2];simp only [Sem.run_bind,asAddr,Sem.run_pure,Result.andThen_ok,hr w rfl]
  ·cases h
theorem jk (hrel:Rel P H ι w) {N:Nat} (hfr:bV H.D ι N fr a.tmps) (f:ResultVar->Sem Value) (hf1: ∀t,f (.tmp t)=pure (a.tmps.getD t undef)) (hf2: ∀x t,f (.cell x t)=do loadVar t (<-asAddr (a.tmps.getD x undef))): ∀(rs:List ResultVar) (vs:List Value),rs.mapM (dB P fr H)=some vs->
  ∃us:List Value,(rs.mapM f).run P w=.ok us w/\vs.length=us.length/\
   ∀(i:Nat) (x y:Value),vs[i]?=some x->us[i]?=some y->VR H.D ι x y
 | [],vs,h=>by
  simp only [List.mapM_nil,Option.pure_def,Option.some.injEq]at h;subst h;exact⟨[],rfl,rfl,fun i x y hx=>by simp at hx⟩
 |r::rs,vs,h=>by
  simp only [List.mapM_cons,Option.bind_eq_bind,Option.pure_def]at h;cases h1:dB P fr H r with
  |none=>simp [h1]at h
  |some u=>
   simp only [h1,Option.bind_some]at h;cases h2:rs.mapM (dB P fr H)with
   |none=>simp [h2]at h
   |some us=>
    simp only [h2,Option.bind_some,Option.some.injEq]at h;subst h;obtain⟨u',hr,hv⟩:=wM hrel hfr h1;obtain⟨us',hrs,hl,hvs⟩:=jk hrel hfr f hf1 hf2 rs us h2;have hr:(f r).run P w=.ok u' w:=by cases r<;>simpa only [hf1,hf2]using hr
    refine⟨u'::us',?_,by simp [hl],fun i x y hx hy=>?_⟩
    ·rw [List.mapM_cons,Sem.run_bind,hr];simp only [Result.andThen_ok,Sem.run_bind,hrs,Sem.run_pure]
    ·cases i with
     |zero=>simp at hx hy;subst hx hy;exact hv
     |succ i=>exact hvs i x y (by simpa using hx) (by simpa using hy)
theorem iG (hrel:Rel P H ι w) {N:Nat} (hfr:bV H.D ι N fr a.tmps) (h:aX P fn fr H=some v): ∃v',(results fn a.tmps).run P w=.ok v' w/\VR H.D ι v v':=by
 unfold aX at h;cases hm:fn.results.toList.mapM (dB P fr H)with
 |none=>rw [hm]at h;cases h
 |some vs=>
  have key:=fun f hf1 hf2=>jk hrel hfr f hf1 hf2 fn.results.toList vs hm
  have hex: ∃us:List Value,(results fn a.tmps).run P w=.ok (if h:us.toArray.size=1 then us.toArray[0]else .tuple us.toArray) w/\vs.length=us.length/\ ∀(i:Nat) (x y:Value),vs[i]?=some x->us[i]?=some y->VR H.D ι x y:=by
   unfold results;rw [Array.mapM_eq_mapM_toList];simp only [Sem.run_bind,map_eq_pure_bind];generalize hF:(fun(x:ResultVar)=>_)=F;obtain⟨us,hr,hl,hv⟩:=key F (fun t=>by rw [<-hF]) (fun x t=>by rw [<-hF]);refine⟨us,?_,hl,hv⟩;rw [hr];simp only [Result.andThen_ok,Sem.run_pure]
  obtain⟨us,hrun,hl,hv⟩:=hex;rw [hm]at h
  match vs,us,hl,h,hv,hrun with
  | [x],[y],_,h,hv,hrun=>
   simp only [Option.some.injEq]at h;subst h;exact⟨y,hrun,hv 0 x y rfl rfl⟩
  | [],[],_,h,hv,hrun=>
   simp only [Option.some.injEq]at h;subst h;exact⟨_,hrun,.flat _ rfl⟩
  |x::x2::xs,y::y2::ys,hl,h,hv,hrun=>
   simp only [Option.some.injEq]at h;subst h;refine⟨_,hrun,?_⟩;rw [dif_neg (by simp)];exact .tuple _ _ (by simpa using hl) (fun i p q hp hq=>hv i p q (by simpa using hp) (by simpa using hq))
theorem Iu (hT:lz P T) (hm:P.follows .mixedOrders=true): ∀(n:Nat) (todo:List Item) (fr:Fr) (H:LH) (ι:Ren) (a:Act) (w:World),run P L T fn n todo fr H=some (v,H')->(∀x∈todo,gC L fn.ntmps x=true)->
  Rel P H ι w->bV H.D ι fn.ntmps fr a.tmps->a.defers= []-> ∀(b:Frame) (cs:List Frame),∃(a':Act) (todo':List Item) (w':World) (ι':Ren) (v':Value),
   Steps P (lone (b.at a todo) cs w) (lone { b.at a' todo' with mode:=.returning } cs w')/\a'.defers= []/\(results fn a'.tmps).run P w'=.ok v' w'/\Out P H ι w H' ι' w'/\VR H'.D ι' v v':=by
 intro n;induction n with
 |zero=>intro todo fr H ι a w h;simp [run]at h
 |succ n ih=>
  intro todo fr H ι a w h hit hrel hfr hd b cs
  have fin: ∀k,(aX P fn fr H).map (fun v=>(v,H))=some (v,H')->Steps P (lone (b.at a todo) cs w) (lone { b.at a k with mode:=.returning } cs w)-> ∃(a':Act) (todo':List Item) (w':World) (ι':Ren) (v':Value),
    Steps P (lone (b.at a todo) cs w) (lone { b.at a' todo' with mode:=.returning } cs w')/\a'.defers= []/\(results fn a'.tmps).run P w'=.ok v' w'/\Out P H ι w H' ι' w'/\VR H'.D ι' v v':=by
   intro k hk hs;simp only [Option.map_eq_some_iff,Prod.mk.injEq]at hk;obtain⟨u,hu,rfl,rfl⟩:=hk;obtain⟨v',hr,hv⟩:=iG hrel hfr hu;exact⟨a,k,w,ι,v',hs,hd,hr,Out.refl hrel,hv⟩
  have go: ∀todo1,run P L T fn n todo1 fr H=some (v,H')->(∀x∈todo1,gC L fn.ntmps x=true)->step P (lone (b.at a todo) cs w)=.next (lone (b.at a todo1) cs w)-> ∃(a':Act) (todo':List Item) (w':World) (ι':Ren) (v':Value),
    Steps P (lone (b.at a todo) cs w) (lone { b.at a' todo' with mode:=.returning } cs w')/\a'.defers= []/\(results fn a'.tmps).run P w'=.ok v' w'/\Out P H ι w H' ι' w'/\VR H'.D ι' v v':=by
   intro todo1 h1 hi1 hs;obtain⟨a',t',w',ι',v',g1,g2⟩:=ih todo1 fr H ι a w h1 hi1 hrel hfr hd b cs;exact⟨a',t',w',ι',v',.head hs g1,g2⟩
  cases todo with
  |nil=>exact fin [] (by simpa only [run]using h) (.one step_end)
  |cons it k=>
   have hk: ∀x∈k,gC L fn.ntmps x=true:=fun x hx=>hit x (List.mem_cons_of_mem _ hx);have hx:=hit it (List.mem_cons_self ..);cases it with
   |inBlock id=>exact go k (by simpa only [run]using h) hk step_inBlock
   |inLoop c=>exact go (.code c::.inLoop c::k) (by simpa only [run]using h) (fun z hz=>by
     rcases List.mem_cons.1 hz with rfl|hz
     ·exact hx
     ·rcases List.mem_cons.1 hz with rfl|hz
      ·exact hx
      ·exact hk z hz) step_inLoop
   |code c=>
    cases c with
    |skip=>exact go k (by simpa only [run]using h) hk step_skip
    |label l=>exact go k (by simpa only [run]using h) hk step_label
    |seq x y=>
     simp only [gC,codeOk,Bool.and_eq_true]at hx
     exact go (.code x::.code y::k) (by simpa only [run]using h) (fun z hz=>by
      rcases List.mem_cons.1 hz with rfl|hz
      ·exact hx.1
      ·rcases List.mem_cons.1 hz with rfl|hz
       ·exact hx.2
       ·exact hk z hz) step_seq
    |block id c=>exact go (.code c::.inBlock id::k) (by simpa only [run]using h) (fun z hz=>by
      rcases List.mem_cons.1 hz with rfl|hz
      ·exact hx
      ·rcases List.mem_cons.1 hz with rfl|hz
       ·rfl
       ·exact hk z hz) step_block
    |loop c=>exact go (.code c::.inLoop c::k) (by simpa only [run]using h) (fun z hz=>by
      rcases List.mem_cons.1 hz with rfl|hz
      ·exact hx
      ·rcases List.mem_cons.1 hz with rfl|hz
       ·exact hx
       ·exact hk z hz) step_loop
    |ret=>exact fin (.code .ret::k) (by simpa only [run]using h) (.one step_ret)
    |exit id=>
     simp only [run]at h;cases hx2:exitTo id k with
     |none=>simp [hx2]at h
     |some k'=>
      simp only [hx2]at h;exact go k' h (vt hx2 hk) (step_exit hx2)
    |cond c x y=>
     simp only [gC,codeOk,Bool.and_eq_true]at hx;simp only [run]at h;have hc:=hfr.ev c;cases he:ev fr c with
     |bool t=>
      rw [he]at hc;have hc':=o_ hc;simp only [he]at h;refine go (.code (if t then x else y)::k) ?_ (fun z hz=>?_) (step_cond hc')
      ·cases t<;>simpa using h
      ·rcases List.mem_cons.1 hz with rfl|hz
       ·cases t
        ·exact hx.2
        ·exact hx.1
       ·exact hk z hz
     |_=>simp [he]at h
    |region id ops draw=>
     have reg: ∀H1 fr1,run P L T fn n k fr1 H1=some (v,H')->(Code.region id ops draw).wp P (fun e a' w'=>e=.normal/\ ∃ι',Out P H ι w H1 ι' w'/\bV H1.D ι' fn.ntmps fr1 a'.tmps/\a'.defers=a.defers) a w-> ∃(a':Act) (todo':List Item) (w':World) (ι':Ren) (v':Value),
       Steps P (lone (b.at a (.code (.region id ops draw)::k)) cs w) (lone { b.at a' todo' with mode:=.returning } cs w')/\a'.defers= []/\(results fn a'.tmps).run P w'=.ok v' w'/\Out P H ι w H' ι' w'/\VR H'.D ι' v v':=by
      intro H1 fr1 h1 hwp;obtain⟨e,a1,w1,⟨rfl,ι1,ho1,hf1,hd1⟩,harr⟩:=hwp b k cs;obtain⟨a',t',w',ι',v',g1,g2,g3,g4,g5⟩:=ih k fr1 H1 ι1 a1 w1 h1 hk ho1.rel hf1 (by rw [hd1,hd]) b cs;exact⟨a',t',w',ι',v',Steps.trans harr g1,g2,g3,ho1.trans g4,g5⟩
     cases draw with
     |false=>
      simp only [run]at h;cases hl:cL P T fn.ntmps ops ops.toList fr H with
      |none=>simp [hl]at h
      |some r=>
       obtain⟨fr1,H1⟩:=r;simp only [hl]at h;exact reg H1 fr1 h (wp_region_list (pw hT ops.toList fr H ι a w hl hrel hfr _ (fun ι' a' w' ho hf hdd=>⟨rfl,ι',ho,hf,hdd⟩)))
     |true=>
      simp only [run]at h;cases hl:dO P L T fn.ntmps id ops fr H with
      |none=>simp [hl]at h
      |some r=>
       obtain⟨fr1,H1⟩:=r;simp only [hl]at h;have hx':l_ L fn.ntmps id ops=true:=hx;unfold dO at hl;unfold l_ at hx';cases hc:L.ch fn.ntmps id ops.size with
       |none=>
        rw [hc]at hl hx';exact reg H1 fr1 h (It hT hm hx' hl hrel hfr id (fun ι' a' w' ho hf hdd=>⟨rfl,ι',ho,hf,hdd⟩))
       |some prs=>
        rw [hc]at hl hx';rw [Bool.and_eq_true]at hx'
        letI:Cvt:=⟨L.cv⟩
        exact reg H1 fr1 h (wL hT hm hx'.1 hx'.2 hl hrel hfr id (fun ι' a' w' ho hf hdd=>⟨rfl,ι',ho,hf,hdd⟩))
    |_=>simp [run]at h
   |_=>simp [run]at h
end
abbrev Ext:=Env
def ow (P:Program) (ext:Ext):Prop:= ∀f s,ext f=some s-> ∀args H v H',s args H=some (v,H')->Gw P f args H v H'
section
variable {P:Program} {ext:Ext} {H H':LH} {ι ι':Ren} {w w':World} {v v':Value}
theorem ox (hrel:Rel P H ι w) (hout:Out P H ι w H' ι' w') (hle:H.le H'):Out P H ι w H ι w':=by
 refine⟨⟨hrel.dom,hrel.hol,fun l b hb=>?_,hrel.sep,ed hrel hout.chg (fun _ hk=>.inl hk) rfl rfl⟩,Nat.le_refl _,fun _ h=>h,fun _ _=>rfl,hout.chg,fun k hk=>.inl hk,fun k hk=>.inl hk,rfl⟩;have hl:=hrel.live hb;obtain⟨arr,t,f,hw,h1,h2,h3⟩:=hout.rel.blk l b (by rw [hle.2 l hl.1];exact hb);rw [hout.same l hl]at hw h1 h2 h3;obtain⟨arr0,t0,f0,hw0,g1,g2,g3⟩:=hrel.blk l b hb;refine⟨arr,t,f,hw,h1,fun i x hx=>?_,h3⟩;obtain⟨y,hy,hv⟩:=h2 i x hx;obtain⟨y0,hy0,hv0⟩:=g2 i x hx;exact⟨y,hy,hv.back hv0 hout.same⟩
theorem zn (hrel:Rel P H ι w) (hout:Out P H ι w H' ι' w') (hv:VR H'.D ι' v v'): ∃ι2 v2,v'=v2/\Out P H ι w (trunc H (v,H')).2 ι2 w'/\VR (trunc H (v,H')).2.D ι2 (trunc H (v,H')).1 v2:=by
 unfold trunc;split
 ·rename_i h;refine⟨ι,v',rfl,ox hrel hout h.2,?_⟩;rw [aE hv h.1];exact .flat _ h.1
 ·exact⟨ι',v',rfl,hout,hv⟩
theorem kq {N:Nat} {args:List Value} {args':Array Value} (h1:args.length=args'.size) (h2: ∀(i:Nat) (x y:Value),args[i]?=some x->args'[i]?=some y->VR H.D ι x y) (hN:args.length<=N):
  bV H.D ι N (enter args) (args'++Array.replicate (N-args'.size) undef):=by
 refine⟨by simp;omega,fun t=>?_⟩;unfold enter;rw [Array.getD_eq_getD_getElem?,Array.getElem?_append];by_cases ht:t<args'.size
 ·rw [if_pos ht];have e1:args[t]?=some (args[t]'(by omega)):=List.getElem?_eq_getElem (by omega);have e2:=Array.getElem?_eq_getElem ht;rw [List.getD_eq_getElem?_getD,e1,e2];exact h2 t _ _ e1 e2
 ·rw [if_neg ht,List.getD_eq_getElem?_getD,List.getElem?_eq_none (by omega),Array.getElem?_replicate];split<;>exact .flat _ rfl
theorem zo (hext:ow P ext) (hm:P.follows .mixedOrders=true): ∀n,lz P (cz P ext n):=by
 intro n;induction n with
 |zero=>intro f args H v H' h;simp [cz]at h
 |succ n ih=>
  intro f args H v H' h;unfold cz at h;split at h
  ·rename_i s hs;exact hext f s hs args H v H' h
  ·split at h
   ·rename_i fn hfn;split at h
    ·rename_i c hb;split at h
     ·rename_i hN;obtain⟨r,hr,e⟩:=Option.map_eq_some_iff.1 h;obtain⟨u,H1⟩:=r;refine .inl ⟨⟨fn,hfn,by rw [hb];rfl,hN.2.1⟩,?_⟩;intro ι w args' hrel hl hargs cs
      let b:Frame:= { (default:Frame)with fn:=f,kind:=.normal }
      have henter:Frame.enter P f args' .normal=b.at { tmps:=args'++Array.replicate (fn.ntmps-args'.size) undef,defers:= [] } [.code c]:=by
       simp [Frame.enter,Frame.at,hfn,hb,b]
      obtain⟨a',t',w',ι',v',g1,g2,g3,g4,g5⟩:=Iu ih hm n [.code c] (enter args) H ι { tmps:=args'++Array.replicate (fn.ntmps-args'.size) undef,defers:= [] } w hr
       (fun x hx=>by rcases List.mem_cons.1 hx with rfl|hx;exact hN.2.2;cases hx) hrel (kq hl hargs hN.1) rfl b cs
      rw [<-henter]at g1;obtain⟨ι2,v2,hv2,k1,k2⟩:=zn hrel g4 g5;rw [e]at k1 k2;exact⟨.returned v',w',_,⟨ι2,v',rfl,k1,by rw [hv2];exact k2⟩,g1,rfl,rfl,g2,rfl,fn,hfn,g3⟩
     ·cases h
    ·cases h
   ·cases h
end
def wN (T T':Callee):Prop:= ∀f args H r,T f args H=some r->T' f args H=some r
section
variable {P:Program} {T T':Callee} {fr:Fr} {H:LH} {fn:Func} {L:Loud}
theorem jl (h:wN T T') {f:Value} {args:List Value} {r:Value×LH} (hr:bE P T f args H=some r):bE P T' f args H=some r:=by
 unfold bE at hr⊢;split at hr
 ·exact h _ _ _ _ hr
 ·cases hr
theorem mE (h:wN T T') {o:Oper} {r:Value×LH} (hr:bS P T o fr H=some r):bS P T' o fr H=some r:=by
 obtain⟨dst,op,ty,pos,after,guard⟩:=o;cases op with
 |call c=>
  simp only [bS]at hr⊢;split at hr
  ·exact jl h hr
  ·exact hr
  ·cases hr
 |makeFunc f _ _=>cases f<;>exact hr
 |slice _ _ _ _ mx=>cases mx<;>exact hr
 |_=>exact hr
theorem rE (h:wN T T') {o:Oper} {r:Value} (hr:bW P T o fr H=some r):bW P T' o fr H=some r:=by
 obtain⟨dst,op,ty,pos,after,guard⟩:=o;cases op with
 |call c=>
  simp only [bW]at hr⊢;split at hr
  ·split at hr
   ·rename_i hc;rw [jl h hc];exact hr
   ·cases hr
  ·exact hr
  ·exact hr
  ·cases hr
 |makeFunc f _ _=>cases f<;>exact hr
 |slice _ _ _ _ mx=>cases mx<;>exact hr
 |_=>exact hr
theorem oy (h:wN T T') {o:Oper} {r:Value×LH} (hr:fD P T o fr H=some r):fD P T' o fr H=some r:=by
 have key:bS P T o fr H=some r->bS P T' o fr H=some r:=mE h;obtain⟨dst,op,ty,pos,after,guard⟩:=o;cases op with
 |convert s d x=>
  simp only [fD]at hr⊢;cases hb:db P s d (ev fr x) H with
  |some u=>simp only [hb]at hr⊢;exact hr
  |none=>simp only [hb]at hr⊢;exact key hr
 |_=>exact key hr
theorem eM (h:wN T T') {N:Nat} {all:Array Oper} : ∀ {os:List Oper} {fr:Fr} {H:LH} {r:Fr×LH},cL P T N all os fr H=some r->cL P T' N all os fr H=some r
 | [],fr,H,r,hr=>hr
 |o::os,fr,H,r,hr=>by
  unfold cL at hr⊢;split at hr
  ·split at hr
   ·rename_i ho;rw [oy h ho];simp only;split at hr
    ·exact eM h hr
    ·cases hr
   ·cases hr
  ·split at hr
   ·exact eM h hr
   ·cases hr
  ·cases hr
theorem kY (h:wN T T') {o:Oper} {H0:LH} {r:Value×LH} (hr:bH P T o fr H0 H=some r):bH P T' o fr H0 H=some r:=by
 have key:bS P T o fr H=some r->bS P T' o fr H=some r:=mE h;obtain⟨dst,op,ty,pos,after,guard⟩:=o;cases op with
 |call c=>
  simp only [bH]at hr⊢;cases hc:c.callee with
  |value f=>
   simp only [hc]at hr⊢;split at hr
   ·rw [if_pos ‹_›];obtain⟨u,hu,e⟩:=Option.map_eq_some_iff.1 hr;exact Option.map_eq_some_iff.2 ⟨u,rE h hu,e⟩
   ·cases hr
  |builtin b=>simp only [hc]at hr⊢;cases b<;>exact hr
  |invoke x y=>simp [hc]at hr
 |store _ _ _=>simp [bH]at hr
 |convert s d x=>
  simp only [bH]at hr⊢;cases hb:bM P s d (ev fr x) H with
  |some u=>simp only [hb]at hr⊢;exact hr
  |none=>simp only [hb]at hr⊢;exact key hr
 |_=>simp only [bH]at hr⊢;exact key hr
theorem gY {L:Loud} (h:wN T T') {N:Nat} {all:Array Oper} {H0:LH} : ∀ {os:List Oper} {fr:Fr} {H:LH} {r:Fr×LH},cQ P L T N all H0 os fr H=some r->cQ P L T' N all H0 os fr H=some r
 | [],fr,H,r,hr=>hr
 |o::os,fr,H,r,hr=>by
  unfold cQ at hr⊢;split at hr
  ·rename_i hl;rw [if_pos hl];exact eM h hr
  ·rename_i hl;rw [if_neg hl];split at hr
   ·cases hr
   ·rename_i d hd;split at hr
    ·rename_i hdN;split at hr
     ·rename_i hw;split at hr
      ·rename_i v H1 hop;simp only [if_pos hdN,kY h hop];exact gY h hr
      ·cases hr
     ·rename_i hw;simp only [if_pos hdN];exact gY h hr
     ·cases hr
    ·cases hr
theorem oz [Cvt] (h:wN T T') {o:Oper} {r:Value×LH} (hr:cY P T o fr H=some r):cY P T' o fr H=some r:=by
 unfold cY at hr⊢;split at hr
 ·rename_i hc;rw [if_pos hc];exact hr
 ·rename_i hc;rw [if_neg hc];exact mE h hr
theorem fi [Cvt] (h:wN T T') {N:Nat} {all:Array Oper} {prs:List (Nat×Nat)} : ∀ {os:List Oper} {k:Nat} {old:Nat->Fr×LH} {fr:Fr} {H:LH} {r:Fr×LH},aY P T N all prs k old os fr H=some r->aY P T' N all prs k old os fr H=some r
 | [],k,old,fr,H,r,hr=>hr
 |o::os,k,old,fr,H,r,hr=>by
  unfold aY at hr⊢;split at hr
  ·split at hr
   ·rename_i v H1 ho;rw [oz h ho];simp only;split at hr
    ·split at hr
     ·rename_i hc;rw [if_pos hc];exact fi h hr
     ·cases hr
    ·cases hr
   ·cases hr
  ·split at hr
   ·split at hr
    ·rename_i hc;simp only [if_pos hc];exact fi h hr
    ·cases hr
   ·cases hr
  ·cases hr
theorem mF {L:Loud} (h:wN T T') {N id:Nat} {ops:Array Oper} {fr:Fr} {H:LH} {r:Fr×LH} (hr:dO P L T N id ops fr H=some r):dO P L T' N id ops fr H=some r:=by
 unfold dO at hr⊢;cases hc:L.ch N id ops.size with
 |none=>rw [hc]at hr;exact gY h hr
 |some prs=>rw [hc]at hr;letI:Cvt:=⟨L.cv⟩;exact fi h hr
theorem jo (h:wN T T'): ∀ {n n':Nat} {todo:List Item} {fr:Fr} {H:LH} {r:Value×LH},n<=n'->run P L T fn n todo fr H=some r->run P L T' fn n' todo fr H=some r:=by
 intro n;induction n with
 |zero=>intro n' todo fr H r _ hr;simp [run]at hr
 |succ n ih=>
  intro n' todo fr H r hn hr;obtain⟨m,rfl⟩: ∃m,n'=m+1:=⟨n'-1,by omega⟩
  have hnm:n<=m:=by omega
  cases todo with
  |nil=>simpa only [run]using hr
  |cons it k=>
   cases it with
   |inBlock id=>simp only [run]at hr⊢;exact ih hnm hr
   |inLoop c=>simp only [run]at hr⊢;exact ih hnm hr
   |code c=>
    cases c with
    |skip=>simp only [run]at hr⊢;exact ih hnm hr
    |label l=>simp only [run]at hr⊢;exact ih hnm hr
    |seq x y=>simp only [run]at hr⊢;exact ih hnm hr
    |block id c=>simp only [run]at hr⊢;exact ih hnm hr
    |loop c=>simp only [run]at hr⊢;exact ih hnm hr
    |ret=>simpa only [run]using hr
    |exit id=>
     simp only [run]at hr⊢;split at hr
     ·exact ih hnm hr
     ·cases hr
    |cond c x y=>
     simp only [run]at hr⊢;split at hr
     ·split at hr
      ·rw [if_pos ‹_›];exact ih hnm hr
      ·rw [if_neg ‹_›];exact ih hnm hr
     ·cases hr
    |region id ops draw=>
     cases draw with
     |false=>
      simp only [run]at hr⊢;split at hr
      ·rename_i hl;rw [eM h hl];exact ih hnm hr
      ·cases hr
     |true=>
      simp only [run]at hr⊢;split at hr
      ·rename_i hl;rw [mF h hl];exact ih hnm hr
      ·cases hr
    |_=>simp [run]at hr
   |_=>simp [run]at hr
end
section
variable {P:Program} {ext:Ext}
theorem tD: ∀n,wN (cz P ext n) (cz P ext (n+1)):=by
 intro n;induction n with
 |zero=>intro f args H r h;simp [cz]at h
 |succ n ih=>
  intro f args H r h;unfold cz at h⊢;split at h
  ·exact h
  ·split at h
   ·split at h
    ·split at h
     ·rw [if_pos ‹_›];obtain⟨x,hx,e⟩:=Option.map_eq_some_iff.1 h;exact Option.map_eq_some_iff.2 ⟨x,jo ih (Nat.le_succ n) hx,e⟩
     ·cases h
    ·cases h
   ·cases h
theorem bF {n m:Nat} (h:n<=m):wN (cz P ext n) (cz P ext m):=by
 induction h with
 |refl=>exact fun _ _ _ _ h=>h
 |step _ ih=>exact fun f a H r hr=>tD _ f a H r (ih f a H r hr)
open Classical in
noncomputable def LC (P:Program) (ext:Ext):Callee:=fun f args H=>if h: ∃r n,cz P ext n f args H=some r then some (Classical.choose h)else none
theorem gZ {f:FuncId} {args:List Value} {H:LH} {r:Value×LH} :LC P ext f args H=some r↔ ∃n,cz P ext n f args H=some r:=by
 unfold LC;constructor
 ·intro h;split at h
  ·rename_i hex;injection h with h;rw [<-h];exact Classical.choose_spec hex
  ·cases h
 ·rintro⟨n,hn⟩;have hex: ∃r n,cz P ext n f args H=some r:=⟨r,n,hn⟩
  rw [dif_pos hex];obtain⟨m,hm⟩:=Classical.choose_spec hex;have h1:=bF (Nat.le_max_left n m) _ _ _ _ hn;have h2:=bF (Nat.le_max_right n m) _ _ _ _ hm;rw [h1]at h2;exact h2.symm
theorem vu (hext:ow P ext) (hm:P.follows .mixedOrders=true):lz P (LC P ext):=by
 intro f args H v H' h;obtain⟨n,hn⟩:=gZ.1 h;exact zo hext hm n f args H v H' hn
theorem lH {o:Oper} {fr:Fr} {H:LH} {r:Value×LH} (hr:bS P (LC P ext) o fr H=some r): ∃k,bS P (cz P ext k) o fr H=some r:=by
 obtain⟨dst,op,ty,pos,after,guard⟩:=o;cases op with
 |call c=>
  simp only [bS]at hr⊢;cases hc:c.callee with
  |value f=>
   simp only [hc,bE]at hr⊢;split at hr
   ·obtain⟨k,hk⟩:=gZ.1 hr;exact⟨k,hk⟩
   ·cases hr
  |builtin b=>simp only [hc]at hr⊢;exact⟨0,hr⟩
  |invoke x y=>simp [hc]at hr
 |makeFunc f _ _=>cases f<;>exact⟨0,hr⟩
 |slice _ _ _ _ mx=>cases mx<;>exact⟨0,hr⟩
 |_=>exact⟨0,hr⟩
theorem tE {o:Oper} {fr:Fr} {H:LH} {r:Value} (hr:bW P (LC P ext) o fr H=some r): ∃k,bW P (cz P ext k) o fr H=some r:=by
 obtain⟨dst,op,ty,pos,after,guard⟩:=o;cases op with
 |call c=>
  simp only [bW]at hr⊢;cases hc:c.callee with
  |value f=>
   simp only [hc,bE]at hr⊢;split at hr
   ·rename_i u H1 hcal;split at hcal
    ·rename_i g first captured hf
     obtain⟨k,hk⟩:=gZ.1 hcal;refine⟨k,?_⟩;rw [hk];exact hr
    ·cases hcal
   ·cases hr
  |builtin b=>
   cases b<;>exact⟨0,by simpa only [bW,hc]using hr⟩
  |invoke x y=>simp [hc]at hr
 |makeFunc f _ _=>cases f<;>exact⟨0,hr⟩
 |slice _ _ _ _ mx=>cases mx<;>exact⟨0,hr⟩
 |_=>exact⟨0,hr⟩
theorem zp {o:Oper} {fr:Fr} {H:LH} {r:Value×LH} (hr:fD P (LC P ext) o fr H=some r): ∃k,fD P (cz P ext k) o fr H=some r:=by
 unfold fD at hr;split at hr
 ·rename_i s d x ho;split at hr
  ·rename_i u hx;exact⟨0,by unfold fD;simp only [ho,hx];exact hr⟩
  ·rename_i hx;obtain⟨k,hk⟩:=lH hr;exact⟨k,by unfold fD;simp only [ho,hx];exact hk⟩
 ·rename_i hne;obtain⟨k,hk⟩:=lH hr;refine⟨k,?_⟩;unfold fD;split
  ·rename_i s d x ho;exact absurd ho (hne s d x)
  ·exact hk
theorem jq {N:Nat} {all:Array Oper} : ∀ {os:List Oper} {fr:Fr} {H:LH} {r:Fr×LH},cL P (LC P ext) N all os fr H=some r-> ∃k,cL P (cz P ext k) N all os fr H=some r
 | [],fr,H,r,hr=>⟨0,hr⟩
 |o::os,fr,H,r,hr=>by
  unfold cL at hr;split at hr
  ·rename_i hw;split at hr
   ·rename_i v H1 ho;split at hr
    ·rename_i fr1 hp;obtain⟨k1,h1⟩:=zp ho;obtain⟨k2,h2⟩:=jq hr;refine⟨max k1 k2,?_⟩;unfold cL;rw [hw,oy (bF (Nat.le_max_left k1 k2)) h1];simp only [hp];exact eM (bF (Nat.le_max_right k1 k2)) h2
    ·cases hr
   ·cases hr
  ·rename_i hw;split at hr
   ·rename_i fr1 hp;obtain⟨k2,h2⟩:=jq hr;refine⟨k2,?_⟩;unfold cL;rw [hw];simp only [hp];exact h2
   ·cases hr
  ·cases hr
theorem tG {o:Oper} {fr:Fr} {H0 H:LH} {r:Value×LH} (hr:bH P (LC P ext) o fr H0 H=some r): ∃k,bH P (cz P ext k) o fr H0 H=some r:=by
 have key:bS P (LC P ext) o fr H=some r-> ∃k,bS P (cz P ext k) o fr H=some r:=lH;obtain⟨dst,op,ty,pos,after,guard⟩:=o;cases op with
 |call c=>
  simp only [bH]at hr⊢;cases hc:c.callee with
  |value f=>
   simp only [hc]at hr⊢;split at hr
   ·obtain⟨u,hu,e⟩:=Option.map_eq_some_iff.1 hr;obtain⟨k,hk⟩:=tE hu;refine⟨k,?_⟩;rw [if_pos ‹_›];exact Option.map_eq_some_iff.2 ⟨u,hk,e⟩
   ·cases hr
  |builtin b=>simp only [hc]at hr⊢;refine⟨0,?_⟩;cases b<;>exact hr
  |invoke x y=>simp [hc]at hr
 |store _ _ _=>simp [bH]at hr
 |convert s d x=>
  simp only [bH]at hr⊢;cases hb:bM P s d (ev fr x) H with
  |some u=>simp only [hb]at hr⊢;exact⟨0,hr⟩
  |none=>simp only [hb]at hr⊢;exact key hr
 |_=>simp only [bH]at hr⊢;exact key hr
theorem mG {L:Loud} {N:Nat} {all:Array Oper} {H0:LH} : ∀ {os:List Oper} {fr:Fr} {H:LH} {r:Fr×LH},cQ P L (LC P ext) N all H0 os fr H=some r-> ∃k,cQ P L (cz P ext k) N all H0 os fr H=some r
 | [],fr,H,r,hr=>⟨0,hr⟩
 |o::os,fr,H,r,hr=>by
  unfold cQ at hr;split at hr
  ·rename_i hl;obtain⟨k,hk⟩:=jq hr;refine⟨k,?_⟩;unfold cQ;rw [if_pos hl];exact hk
  ·rename_i hl;split at hr
   ·cases hr
   ·rename_i d hd;split at hr
    ·rename_i hdN;split at hr
     ·rename_i hw;split at hr
      ·rename_i v H1 hop;obtain⟨k1,h1⟩:=tG hop;obtain⟨k2,h2⟩:=mG hr;refine⟨max k1 k2,?_⟩;unfold cQ;rw [if_neg hl];simp only [hd,if_pos hdN,hw,kY (bF (Nat.le_max_left k1 k2)) h1];exact gY (bF (Nat.le_max_right k1 k2)) h2
      ·cases hr
     ·rename_i hw;obtain⟨k2,h2⟩:=mG hr;refine⟨k2,?_⟩;unfold cQ;rw [if_neg hl];simp only [hd,if_pos hdN,hw];exact h2
     ·cases hr
    ·cases hr
theorem zq [Cvt] {o:Oper} {fr:Fr} {H:LH} {r:Value×LH} (hr:cY P (LC P ext) o fr H=some r): ∃n,cY P (cz P ext n) o fr H=some r:=by
 unfold cY at hr⊢;split at hr
 ·rename_i hc;exact⟨0,by rw [if_pos hc];exact hr⟩
 ·rename_i hc;obtain⟨k,h⟩:=lH hr;exact⟨k,by rw [if_neg hc];exact h⟩
theorem iH [Cvt] {N:Nat} {all:Array Oper} {prs:List (Nat×Nat)} : ∀ {os:List Oper} {k:Nat} {old:Nat->Fr×LH} {fr:Fr} {H:LH} {r:Fr×LH},aY P (LC P ext) N all prs k old os fr H=some r-> ∃n,aY P (cz P ext n) N all prs k old os fr H=some r
 | [],k,old,fr,H,r,hr=>⟨0,hr⟩
 |o::os,k,old,fr,H,r,hr=>by
  unfold aY at hr;split at hr
  ·rename_i hw;split at hr
   ·rename_i v H1 ho;split at hr
    ·rename_i fr1 hp;split at hr
     ·rename_i hc;obtain⟨k1,h1⟩:=zq ho;obtain⟨k2,h2⟩:=iH hr;refine⟨max k1 k2,?_⟩;unfold aY;rw [hw,oz (bF (Nat.le_max_left k1 k2)) h1];simp only [hp];rw [if_pos hc];exact fi (bF (Nat.le_max_right k1 k2)) h2
     ·cases hr
    ·cases hr
   ·cases hr
  ·rename_i hw;split at hr
   ·rename_i fr1 hp;split at hr
    ·rename_i hc;obtain⟨k2,h2⟩:=iH hr;refine⟨k2,?_⟩;unfold aY;rw [hw];simp only [hp];rw [if_pos hc];exact h2
    ·cases hr
   ·cases hr
  ·cases hr
theorem wO {L:Loud} {N id:Nat} {ops:Array Oper} {fr:Fr} {H:LH} {r:Fr×LH} (hr:dO P L (LC P ext) N id ops fr H=some r): ∃n,dO P L (cz P ext n) N id ops fr H=some r:=by
 unfold dO at hr⊢;cases hc:L.ch N id ops.size with
 |none=>rw [hc]at hr;exact mG hr
 |some prs=>rw [hc]at hr;letI:Cvt:=⟨L.cv⟩;exact iH hr
theorem DH {fn:Func} : ∀ {n:Nat} {todo:List Item} {fr:Fr} {H:LH} {r:Value×LH},run P ext.loud (LC P ext) fn n todo fr H=some r-> ∃k,run P ext.loud (cz P ext k) fn n todo fr H=some r:=by
 intro n;induction n with
 |zero=>intro todo fr H r hr;simp [run]at hr
 |succ n ih=>
  intro todo fr H r hr;cases todo with
  |nil=>exact⟨0,by simpa only [run]using hr⟩
  |cons it k=>
   cases it with
   |inBlock id=>simp only [run]at hr⊢;exact ih hr
   |inLoop c=>simp only [run]at hr⊢;exact ih hr
   |code c=>
    cases c with
    |skip=>simp only [run]at hr⊢;exact ih hr
    |label l=>simp only [run]at hr⊢;exact ih hr
    |seq x y=>simp only [run]at hr⊢;exact ih hr
    |block id c=>simp only [run]at hr⊢;exact ih hr
    |loop c=>simp only [run]at hr⊢;exact ih hr
    |ret=>exact⟨0,by simpa only [run]using hr⟩
    |exit id=>
     simp only [run]at hr⊢;cases hx:exitTo id k with
     |none=>simp [hx]at hr
     |some k'=>simp only [hx]at hr⊢;exact ih hr
    |cond c x y=>
     simp only [run]at hr⊢;cases he:ev fr c with
     |bool t=>
      simp only [he]at hr⊢;cases t<;>exact ih hr
     |_=>simp [he]at hr
    |region id ops draw=>
     cases draw with
     |false=>
      simp only [run]at hr⊢;split at hr
      ·rename_i fr1 H1 hl;obtain⟨k1,h1⟩:=jq hl;obtain⟨k2,h2⟩:=ih hr;refine⟨max k1 k2,?_⟩;rw [eM (bF (Nat.le_max_left k1 k2)) h1];exact jo (bF (Nat.le_max_right k1 k2)) (Nat.le_refl n) h2
      ·cases hr
     |true=>
      simp only [run]at hr⊢;split at hr
      ·rename_i fr1 H1 hl;obtain⟨k1,h1⟩:=wO hl;obtain⟨k2,h2⟩:=ih hr;refine⟨max k1 k2,?_⟩;rw [mF (bF (Nat.le_max_left k1 k2)) h1];exact jo (bF (Nat.le_max_right k1 k2)) (Nat.le_refl n) h2
      ·cases hr
    |_=>simp [run]at hr
   |_=>simp [run]at hr
theorem DI {f:FuncId} {fn:Func} {c:Code} {args:List Value} {H:LH} {n:Nat} {r:Value×LH} (he:ext f=none) (hf:P.funcs[f]?=some fn) (hb:fn.body=some c) (hN:args.length<=fn.ntmps) (hname:fn.name≠ "runtime.NumGoroutine") (hcd:codeOk ext.loud fn.ntmps c=true)
  (hr:run P ext.loud (LC P ext) fn n [.code c] (enter args) H=some r):LC P ext f args H=some (trunc H r):=by
 obtain⟨k,hk⟩:=DH hr;refine gZ.2 ⟨max n k+1,?_⟩;unfold cz;simp only [he,hf,hb,if_pos (And.intro hN (And.intro hname hcd))];rw [jo (bF (Nat.le_max_right n k)) (Nat.le_max_left n k) hk];rfl
theorem dj {f:FuncId} {s:List Value->LH->Option (Value×LH)} {args:List Value} {H:LH} {r:Value×LH} (he:ext f=some s) (hr:s args H=some r):LC P ext f args H=some r:=
 gZ.2 ⟨1,by unfold cz;simp only [he];exact hr⟩
end
inductive Res where
 |ret (v:Value)
 |pan (v:Value)
 |jump (j:Option Code)
structure YC where
 l:Nat
 fn:Func
 fr:Fr
 params:List Tmp
 assign:Code
 body:Code
abbrev GA:=List Value->LH->Res->LH->Prop
structure PEnv where
 E:Ext
 ps:FuncId->Bool
 pl:Loud
 px:FuncId->Option GA
 cat:Option FuncId
 tF:TypeId
def mH (fr:Fr):List (Tmp×Value)->Fr
 | []=>fr
 |(d,v)::l=>mH (upd fr d v) l
def tok (l:Nat):Value:=.func (.yield l) #[] #[]
def LH.dead (H:LH):LH:=⟨H.n+1,H.get,H.hole,H.base,H.ng⟩
def zt:Res->Bool
 |.ret v=>ao v
 |.pan v=>ao v
 |.jump _=>false
inductive J where
 |call (f:FuncId) (args:List Value) (H:LH) (r:Res) (H':LH)
 |run (Y:Option YC) (rd:Nat) (fn:Func) (k:List Item) (fr:Fr) (H:LH) (p:Option Code) (r:Res) (H':LH) (p':Option Code)
 |ops (Y:Option YC) (rd:Nat) (fn:Func) (all:Array Oper) (os:List Oper) (k:List Item) (fr:Fr) (H:LH) (p:Option Code) (r:Res) (H':LH) (p':Option Code)
def eI:Op->Bool
 |.defer _=>true
 |_=>false
def aP (L:Loud) (N:Nat):Code->Bool
 |.region id ops true=>l_ L N id ops&&ops.toList.all fun o=>!eI o.op
 |.seq a b=>aP L N a&&aP L N b
 |.cond _ a b=>aP L N a&&aP L N b
 |.block _ c=>aP L N c
 |.loop c=>aP L N c
 |.scope c=>aP L N c
 |.rangeFunc _ _ a b=>aP L N a&&aP L N b
 |_=>true
def rF (P:Program) (E:PEnv) (f:FuncId) (fn:Func) (c:Code) (args:List Value):Prop:=P.funcs[f]?=some fn/\fn.body=some c/\args.length<=fn.ntmps/\fn.name≠ "runtime.NumGoroutine" /\aP E.pl fn.ntmps c=true
def dR:Value:=.agg #[.int .i64 0,.int .i64 0]
def Iv (E:PEnv) (fr:Fr) (op:Op):Bool:=match op with
 |.call c=>match c.callee with
  |.value x=>match ev fr x with
   |.func (.func g) _ _=>E.ps g
   |_=>false
  |_=>false
 |_=>false
def DJ (P:Program) (t:TypeId) (v:Value) (H:LH):Option LH:=
 match P.underlying t,v with
 |some (.slice e),.slice ad n _=>
  if n=0 then some H else
   match ad,zr P e with
   |some ⟨l,off,none⟩,some z=>
    match H.get l with
    |some b=>
     if b.rw=true/\(Builtin.zeroCells z.cells n).toList.all (fun x=>aC x&&ao x)=true/\off+(Builtin.zeroCells z.cells n).toList.length<=b.cells.length then
      some (H.set l { b with cells:=aW b.cells off (Builtin.zeroCells z.cells n).toList })
     else none
    |none=>none
   |_,_=>none
 |_,_=>none
def kZ (l:List Oper) (o:Oper):Bool:=
 ((List.range l.length).all fun i=>fE (cO (l++ [o]) []) l.length i)&&(o.after.toList.all fun e=>!Region.binds .any e||decide (e.on<l.length))&&
 l.all fun x=>(x.after.toList.all fun e=>!Region.binds .any e||decide (e.on<l.length))&&match x.guard with
  |some (g,_)=>decide (g<l.length)
  |none=>true
inductive R (P:Program) (E:PEnv):J->Prop
 |lc {f args H v H'} :cU P f->LC P E.E f args H=some (v,H')->R P E (.call f args H (.ret v) H')
 |px {f args H r H' s} :E.px f=some s->s args H r H'->R P E (.call f args H r H')
 |body {f fn c args H r H'} :rF P E f fn c args->R P E (.run none 0 fn [.code c] (enter args) H none r H' none)->R P E (.call f args H r H')
 |body3 {f fn c args H r H'} :rF P E f fn c args->R P E (.run none 3 fn [.code c] (enter args) H none r H' none)->R P E (.call f args H r H')
 |trunc {f args H r H'} :R P E (.call f args H r H')->zt r=true->H.le H'->R P E (.call f args H r H)
 |cat {f g first caps H v H'} :E.cat=some f->R P E (.call g (first.toList++caps.toList) H (.ret v) H')->R P E (.call f [.func (.func g) first caps] H (.ret (.tuple #[dR,.bool false])) H')
 |catp {f g first caps H a c H'} :E.cat=some f->R P E (.call g (first.toList++caps.toList) H (.pan (.agg #[.int .i64 a,.int .i64 c])) H')->R P E (.call f [.func (.func g) first caps] H (.ret (.tuple #[.agg #[.int .i64 a,.int .i64 c],.bool true])) H')
 |nil0 {Y fn fr H p v} :aX P fn fr H=some v->R P E (.run Y 0 fn [] fr H p (.ret v) H p)
 |ret0 {Y fn k fr H p v} :aX P fn fr H=some v->R P E (.run Y 0 fn (.code .ret::k) fr H p (.ret v) H p)
 |nil3 {Y fn fr H p v} :aX P fn fr H=some v->R P E (.run Y 3 fn [] fr H p (.ret v) H p)
 |ret3 {Y fn k fr H p v} :aX P fn fr H=some v->R P E (.run Y 3 fn (.code .ret::k) fr H p (.ret v) H p)
 |nil1 {fn fr H} :R P E (.run none 2 fn [] fr H none (.jump none) H none)
 |ret1 {fn k fr H} :R P E (.run none 2 fn (.code .ret::k) fr H none (.jump (some .ret)) H none)
 |exit1 {fn k fr H id} :exitTo id k=none->R P E (.run none 2 fn (.code (.exit id)::k) fr H none (.jump (some (.exit id))) H none)
 |beg {fn k fr H r H'} :R P E (.run none 2 fn k fr H none r H' none)->R P E (.run none 1 fn (.beginRound::k) fr H none r H' none)
 |skip {Y rd fn k fr H p r H' p'} :R P E (.run Y rd fn k fr H p r H' p')->R P E (.run Y rd fn (.code .skip::k) fr H p r H' p')
 |label {Y rd fn k fr H p r H' p' l} :R P E (.run Y rd fn k fr H p r H' p')->R P E (.run Y rd fn (.code (.label l)::k) fr H p r H' p')
 |inBlock {Y rd fn k fr H p r H' p' l} :R P E (.run Y rd fn k fr H p r H' p')->R P E (.run Y rd fn (.inBlock l::k) fr H p r H' p')
 |inScope {Y rd fn k fr H p r H' p' c} :R P E (.run Y rd fn k fr H p r H' p')->R P E (.run Y rd fn (.inScope c::k) fr H p r H' p')
 |seq {Y rd fn k fr H p r H' p' a b} :R P E (.run Y rd fn (.code a::.code b::k) fr H p r H' p')->R P E (.run Y rd fn (.code (.seq a b)::k) fr H p r H' p')
 |block {Y rd fn k fr H p r H' p' id c} :R P E (.run Y rd fn (.code c::.inBlock id::k) fr H p r H' p')->R P E (.run Y rd fn (.code (.block id c)::k) fr H p r H' p')
 |scope {Y rd fn k fr H p r H' p' c} :R P E (.run Y rd fn (.code c::.inScope c::k) fr H p r H' p')->R P E (.run Y rd fn (.code (.scope c)::k) fr H p r H' p')
 |loop {Y rd fn k fr H p r H' p' c} :R P E (.run Y rd fn (.code c::.inLoop c::k) fr H p r H' p')->R P E (.run Y rd fn (.code (.loop c)::k) fr H p r H' p')
 |inLoop {Y rd fn k fr H p r H' p' c} :R P E (.run Y rd fn (.code c::.inLoop c::k) fr H p r H' p')->R P E (.run Y rd fn (.inLoop c::k) fr H p r H' p')
 |exit {Y rd fn k k' fr H p r H' p' id} :exitTo id k=some k'->R P E (.run Y rd fn k' fr H p r H' p')->R P E (.run Y rd fn (.code (.exit id)::k) fr H p r H' p')
 |goto {Y rd fn k k' fr H p r H' p' id} :gotoIn id k=some k'->R P E (.run Y rd fn k' fr H p r H' p')->R P E (.run Y rd fn (.code (.goto id)::k) fr H p r H' p')
 |cond {Y rd fn k fr H p r H' p' c a b t} :ev fr c=.bool t->R P E (.run Y rd fn (.code (if t then a else b)::k) fr H p r H' p')->R P E (.run Y rd fn (.code (.cond c a b)::k) fr H p r H' p')
 |region {Y rd fn k fr H p r H' p' id ops} :R P E (.ops Y rd fn ops ops.toList k fr H p r H' p')->R P E (.run Y rd fn (.code (.region id ops false)::k) fr H p r H' p')
 |draw {Y rd fn k fr H p r H' p' id ops fr1 H1} :dO P E.pl (LC P E.E) fn.ntmps id ops fr H=some (fr1,H1)->R P E (.run Y rd fn k fr1 H1 p r H' p')->R P E (.run Y rd fn (.code (.region id ops true)::k) fr H p r H' p')
 |drawc {Y fn k fr H p r H' p' id o prs fr1 H1} {l:List Oper} :@kb ⟨E.pl.cv⟩ ⟨l⟩ prs=true->kZ l o=true->@aY ⟨E.pl.cv⟩ P (LC P E.E) fn.ntmps ⟨l⟩ prs 0 (fun _=>(fr,H)) l fr H=some (fr1,H1)->
   R P E (.ops Y 3 fn ⟨l++ [o]⟩ [o] k fr1 H1 p r H' p')->R P E (.run Y 3 fn (.code (.region id ⟨l++ [o]⟩ true)::k) fr H p r H' p')
 |rangeF {Y rd fn k fr H p r H' p' x params assign body g caps gfn gc v H1 p1} :ev fr x=.func (.func g) #[] caps->rF P E g gfn gc (tok H.n::caps.toList)->
   R P E (.run (some ⟨H.n,fn,fr,params.toList,assign,body⟩) 0 gfn [.code gc] (enter (tok H.n::caps.toList)) H.dead none (.ret v) H1 p1)->
   R P E (.run Y rd fn ((p1.map Item.code).toList++k) fr H1 p r H' p')->R P E (.run Y rd fn (.code (.rangeFunc x params assign body)::k) fr H p r H' p')
 |onil {Y rd fn all k fr H p r H' p'} :R P E (.run Y rd fn k fr H p r H' p')->R P E (.ops Y rd fn all [] k fr H p r H' p')
 |oskip {Y rd fn all o os k fr fr1 H p r H' p'} :aQ all fr o=some false->bb fn.ntmps fr o.dst undef=some fr1->R P E (.ops Y rd fn all os k fr1 H p r H' p')->R P E (.ops Y rd fn all (o::os) k fr H p r H' p')
 |oplain {Y rd fn all o os k fr fr1 H H1 p r H' p' v} :aQ all fr o=some true->Iv E fr o.op=false->fD P (LC P E.E) o fr H=some (v,H1)->bb fn.ntmps fr o.dst v=some fr1->R P E (.ops Y rd fn all os k fr1 H1 p r H' p')->R P E (.ops Y rd fn all (o::os) k fr H p r H' p')
 |omkf {Y rd fn all o os k fr fr1 H p r H' p' g first caps} :aQ all fr o=some true->o.op=.makeFunc (.func g) first caps->first.size≠0->bb fn.ntmps fr o.dst (.func (.func g) (first.map (ev fr)) (caps.map (ev fr)))=some fr1->R P E (.ops Y rd fn all os k fr1 H p r H' p')->R P E (.ops Y rd fn all (o::os) k fr H p r H' p')
 |oclear {Y rd fn all o os k fr fr1 H H1 p r H' p' x t} :aQ all fr o=some true->o.op=.call ⟨.builtin .clear,#[x],#[t]⟩->DJ P t (ev fr x) H=some H1->bb fn.ntmps fr o.dst (.tuple #[])=some fr1->R P E (.ops Y rd fn all os k fr1 H1 p r H' p')->R P E (.ops Y rd fn all (o::os) k fr H p r H' p')
 |ocall {Y rd fn all o os k fr fr1 H H1 p r H' p' v x args ts g first caps} :aQ all fr o=some true->o.op=.call ⟨.value x,args,ts⟩->ev fr x=.func (.func g) first caps->E.ps g=true->R P E (.call g (first.toList++args.toList.map (ev fr)++caps.toList) H (.ret v) H1)->bb fn.ntmps fr o.dst v=some fr1->R P E (.ops Y rd fn all os k fr1 H1 p r H' p')->R P E (.ops Y rd fn all (o::os) k fr H p r H' p')
 |ocallp {Y rd fn all o os k fr H H1 p v x args ts g first caps} :aQ all fr o=some true->o.op=.call ⟨.value x,args,ts⟩->ev fr x=.func (.func g) first caps->E.ps g=true->R P E (.call g (first.toList++args.toList.map (ev fr)++caps.toList) H (.pan v) H1)->R P E (.ops Y rd fn all (o::os) k fr H p (.pan v) H1 p)
 |oyield {yc fn all o os k fr fr1 H H1 r H' p' x args ts j} :aQ all fr o=some true->o.op=.call ⟨.value x,args,ts⟩->ev fr x=tok yc.l->args.size=yc.params.length->(∀d∈yc.params,d<yc.fn.ntmps)->
   R P E (.run none 1 yc.fn [.code yc.assign,.beginRound,.code yc.body] (mH yc.fr (yc.params.zip (args.toList.map (ev fr)))) H none (.jump j) H1 none)->bb fn.ntmps fr o.dst (.bool j.isNone)=some fr1->
   R P E (.ops (some yc) 0 fn all os k fr1 H1 j r H' p')->R P E (.ops (some yc) 0 fn all (o::os) k fr H none r H' p')
section
variable {P:Program} {H H' H1:LH} {ι ι' ι1:Ren} {w w' w1:World} {X:Option Nat}
structure OutX (P:Program) (X:Option Nat) (H:LH) (ι:Ren) (w:World) (H':LH) (ι':Ren) (w':World):Prop where
 rel:Rel P H' ι' w'
 n:H.n<=H'.n
 sub: ∀l,H.D l->H'.D l
 same: ∀l,H.D l->ι' l=ι l
 chg:Change (fun k=>RW H ι k\/X=some k) w w'
 rw: ∀k,RW H' ι' k->RW H ι k\/w.heap.size<=k
 img: ∀k,lE H' ι' k->lE H ι k\/w.heap.size<=k
 ng:H'.ng=H.ng
theorem Out.x (h:Out P H ι w H' ι' w'):OutX P X H ι w H' ι' w':=⟨h.rel,h.n,h.sub,h.same,h.chg.mono (fun _ _ h=>.inl h),h.rw,h.img,h.ng⟩
theorem OutX.out (h:OutX P none H ι w H' ι' w'):Out P H ι w H' ι' w':=⟨h.rel,h.n,h.sub,h.same,h.chg.mono (fun k _ h=>by rcases h with h|h;exact h;cases h),h.rw,h.img,h.ng⟩
theorem OutX.refl (h:Rel P H ι w):OutX P X H ι w H ι w:=(Out.refl h).x
theorem OutX.trans (h:OutX P X H ι w H1 ι1 w1) (k:OutX P X H1 ι1 w1 H' ι' w'):OutX P X H ι w H' ι' w':=
 ⟨k.rel,Nat.le_trans h.n k.n,fun l hl=>k.sub l (h.sub l hl),fun l hl=>(k.same l (h.sub l hl)).trans (h.same l hl),h.chg.trans k.chg (fun i hi=>by
   rcases hi with hi|hi
   ·rcases h.rw i hi with h1|h1
    ·exact .inl (.inl h1)
    ·exact .inr h1
   ·exact .inl (.inr hi)),
  fun x hx=>by
   rcases k.rw x hx with h1|h1
   ·exact h.rw x h1
   ·exact .inr (Nat.le_trans h.chg.size h1),
  fun x hx=>by
   rcases k.img x hx with h1|h1
   ·exact h.img x h1
   ·exact .inr (Nat.le_trans h.chg.size h1),k.ng.trans h.ng⟩
theorem zu (h:Rel P H ι w) {k:Nat} (hk:RW H ι k): ∃arr t f,w.heap[k]?=some (.cells arr t f):=by
 obtain⟨l,b,hb,_,rfl⟩:=hk;obtain⟨arr,t,f,hw,_⟩:=h.blk l b hb;exact⟨arr,t,f,hw⟩
theorem dS (h:Rel P H ι w) {k:Nat} (hk:lE H ι k): ∃arr t f,w.heap[k]?=some (.cells arr t f):=by
 obtain⟨l,b,hb,rfl⟩:=hk;obtain⟨arr,t,f,hw,_⟩:=h.blk l b hb;exact⟨arr,t,f,hw⟩
def tH (o:Obj):Prop:= ∀arr t f,o≠.cells arr t f
theorem OutX.keep (h:OutX P X H ι w H' ι' w') (hrel:Rel P H ι w) {q:Nat} {o:Obj} (hq:w.heap[q]?=some o) (ho:tH o) (hx:X≠some q):w'.heap[q]?=some o:=by
 rw [h.chg.block q (Array.getElem?_eq_some_iff.1 hq).1 (fun hk=>?_)]
 ·exact hq
 ·rcases hk with hk|hk
  ·obtain⟨arr,t,f,hw⟩:=zu hrel hk;rw [hq]at hw;injection hw with hw;exact ho _ _ _ hw
  ·exact hx hk
theorem g_ (h:Rel P H ι w) {S:Nat->Prop} (hc:Change S w w') (hS: ∀k,S k-> ¬lE H ι k/\ ¬k<H.ng):Rel P H ι w':=by
 refine⟨h.dom,h.hol,fun l b hb=>?_,h.sep,fun g hg=>?_⟩
 ·obtain⟨arr,t,f,hw,h1,h2,h3⟩:=h.blk l b hb;refine⟨arr,t,f,?_,h1,h2,h3⟩;rw [hc.block _ (Array.getElem?_eq_some_iff.1 hw).1 (fun hk=>(hS _ hk).1 ⟨l,b,hb,rfl⟩)];exact hw
 ·obtain⟨h1,h2,h3⟩:=h.pin g hg;exact⟨by rw [hc.block g h2 (fun hk=>(hS g hk).2 hg)];exact h1,Nat.lt_of_lt_of_le h2 hc.size,h3⟩
theorem eT {r:Nat} {o:Obj} :Change (fun k=>k=r) w (w.putObj r o):=
 ⟨rfl,rfl,rfl,by simp,fun k _ hk=>World.putObj_heap_other hk⟩
theorem rG (h:Rel P H ι w) {S:Nat->Prop} (hc:Change S w w') (hS: ∀k,S k-> ¬lE H ι k/\ ¬k<H.ng) (hx: ∀k,k<w.heap.size->S k->X=some k):OutX P X H ι w H ι w':=
 ⟨g_ h hc hS,Nat.le_refl _,fun _ h=>h,fun _ _=>rfl,hc.mono (fun k hk hs=>.inr (hx k hk hs)),fun _ h=>.inl h,fun _ h=>.inl h,rfl⟩
def Marks (B:Nat) (w:World):List Deferred->Prop
 | []=>True
 |d::ds=>(∃r,d= { target:=.collected r,args:=#[] } /\B<=r/\w.heap[r]?=some (.deferred (some []))/\ ∀d'∈ds,d'≠d)/\Marks B w ds
theorem Marks.keep {B:Nat} : ∀ {ds:List Deferred},Marks B w ds->(∀r,B<=r->w.heap[r]?=some (.deferred (some []))->(∃d∈ds,d= { target:=.collected r,args:=#[] })->w'.heap[r]?=some (.deferred (some [])))->Marks B w' ds
 | [],_,_=>trivial
 |d::ds,⟨⟨r,h1,h2,h3,h4⟩,h5⟩,hk=>⟨⟨r,h1,h2,hk r h2 h3 ⟨d,List.mem_cons_self ..,h1⟩,h4⟩,h5.keep (fun r hr hw ⟨d,hd,e⟩=>hk r hr hw ⟨d,List.mem_cons_of_mem _ hd,e⟩)⟩
theorem gw {x:Option (List Deferred)} :tH (.deferred x):=fun _ _ _ h=>by cases h
theorem k_ {x:Loop} :tH (.loop x):=fun _ _ _ h=>by cases h
theorem Marks.out {B:Nat} {ds:List Deferred} (h:Marks B w ds) (ho:OutX P X H ι w H' ι' w') (hrel:Rel P H ι w) (hx: ∀q,X=some q-> ∃rc,w.heap[q]?=some (.loop rc)):Marks B w' ds:=
 h.keep (fun r _ hr _=>ho.keep hrel hr gw (fun e=>by
  obtain⟨rc,h2⟩:=hx r e;rw [hr]at h2;cases h2))
theorem wP {fr:Frame} {cs:List Frame} {r:Nat} {ds:List Deferred} (hm:fr.mode≠.run) (hd:fr.defers= { target:=.collected r,args:=#[] } ::ds) (hr:w.heap[r]?=some (.deferred (some []))):
  step P (lone fr cs w)=.next (lone { fr with defers:=ds } cs (w.putObj r (.deferred none))):=by
 refine step_lone_go ?_;have h:=run_takeDeferred (P:=P) hr;cases hmode:fr.mode with
 |run=>exact absurd hmode hm
 |returning=>simp [stepG,unwind,hmode,hd,Sem.runT_eq,h,GStep.bare_after]
 |panicking c=>simp [stepG,unwind,hmode,hd,Sem.runT_eq,h,GStep.bare_after]
theorem gD {B:Nat} {cs:List Frame} : ∀(ds:List Deferred) (fr:Frame) (w:World),fr.mode≠.run->fr.defers=ds->Marks B w ds-> ∃w',Steps P (lone fr cs w) (lone { fr with defers:= [] } cs w')/\Change (fun k=>B<=k/\w.heap[k]?=some (.deferred (some []))) w w'
 | [],fr,w,_,hd,_=>⟨w,by rw [show({ fr with defers:= [] } :Frame)=fr by rw [<-hd]];exact Steps.refl _ _,Change.refl _ _⟩
 |d::ds,fr,w,hm,hd,⟨⟨r,h1,h2,h3,h4⟩,h5⟩=>by
  subst h1;have hs:=wP (P:=P) (cs:=cs) hm hd h3
  have hk:Marks B (w.putObj r (.deferred none)) ds:=h5.keep (fun r' _ hr' ⟨d,hd,e⟩=>by
   rw [World.putObj_heap_other (fun e2=>h4 d hd (by rw [e,e2]))];exact hr')
  obtain⟨w',g1,g2⟩:=gD ds { fr with defers:=ds } (w.putObj r (.deferred none)) hm rfl hk;refine⟨w',.head hs g1,?_⟩;refine Change.trans (S:=fun k=>B<=k/\w.heap[k]?=some (.deferred (some []))) (eT.mono (fun k _ hk=>by subst hk;exact⟨h2,h3⟩)) g2 (fun k hk=>.inl ⟨hk.1,?_⟩);by_cases e:k=r
  ·subst e;exact h3
  ·rw [<-World.putObj_heap_other e];exact hk.2
end
section
variable {P:Program} {ops:Array Oper} {b:Frame} {a:Act} {k:List Item} {cs:List Frame} {w:World}
theorem oA {op:Op} (h:eI op=false) (c:Call):op≠.defer c:=by rintro rfl;cases h
theorem mI {i:Nat} {rest:List Nat} {o:Oper} {K:Act->World->Prop} {Q:List PanicEntry->World->Prop} (ho:ops[i]?=some o) (hw:Region.wanted o (yielded ops a.tmps)=true) (hnd:eI o.op=false)
  (h:o.wp P a w K (fun e a' w'=> ∃ch,e=.panic ch/\Q ch w')):
  (∃a' w',K a' w'/\Steps P (lone (b.atR a (.inRegion ops (i::rest)::k)) cs w) (lone (b.atR a' (.inRegion ops rest::k)) cs w'))\/
  (∃ch w',Q ch w'/\Steps P (lone (b.atR a (.inRegion ops (i::rest)::k)) cs w) (lone { b.atR a (.inRegion ops (i::rest)::k)with mode:=.panicking ch } cs w')):=by
 have hg:=stepGR_op (P:=P) (b:=b) (k:=k) (cs:=cs) (w:=w) (rest:=rest) ho hw;rw [Oper.semAt_eq _ _ _ (oA hnd)]at hg
 have hfin: ∀v,(b.atR a (.inRegion ops (i::rest)::k)).finish v=b.atR (a.put o.dst v) (.inRegion ops rest::k):=by
  intro v;rw [Frame.finish_atR,ho];rfl
 simp only [Oper.wp,Oper.upon]at h;split at h
 ·rename_i v w' hr;refine .inl ⟨_,_,h,.one (step_lone_go ?_)⟩;rw [hg,<-hfin];simp [stepG.apply,hr]
 ·rename_i w' hr;refine .inl ⟨_,_,h,.one (step_lone_go ?_)⟩;rw [hg,<-hfin];simp [stepG.apply,hr]
 ·rename_i d w' hr;refine .inl ⟨_,_,h,.one (step_lone_go ?_)⟩
  have:({ b.atR a (.inRegion ops (i::rest)::k)with defers:=d::a.defers } :Frame).finish undef=
    b.atR ({ a with defers:=d::a.defers }.put o.dst undef) (.inRegion ops rest::k):=by
   have:=Frame.finish_atR b { a with defers:=d::a.defers } ops i rest k undef;rw [ho]at this;exact this
  rw [hg];simp only [stepG.apply,Sem.runT_eq,hr,GStep.bare_after];exact congrArg (fun fr=>GStep.go { frame:=fr,callers:=cs,status:=.running,dying:=none } w') this
 ·rename_i f args w' hr;obtain⟨e,w'',fr,hR,hsteps,_,hleave⟩:=h (b.atR a (.inRegion ops (i::rest)::k)::cs)
  have henter:step P (lone (b.atR a (.inRegion ops (i::rest)::k)) cs w)=
    .next (lone (Frame.enter P f args .normal) (b.atR a (.inRegion ops (i::rest)::k)::cs) w'):=
   step_lone_go (by rw [hg];simp [stepG.apply,hr,Frame.atR])
  cases e with
  |returned v=>
   refine .inl ⟨_,_,hR,.head henter (Steps.trans hsteps (.one ?_))⟩;rw [<-hfin];exact step_leave_returned hleave
  |panicked chain=>
   obtain⟨ch,e,hq⟩:=hR;injection e with e;subst e;refine .inr ⟨chain,w'',hq,.head henter (Steps.trans hsteps (.one ?_))⟩;rw [<-Frame.raise_atR];exact step_leave_panicked hleave
  |outgrown=>
   obtain⟨a₀,w₀,ch,e,_⟩:=hR;cases e
 ·rename_i row args w' hr;obtain⟨v,w'',hR,hsteps⟩:=h (b.atR a (.inRegion ops (i::rest)::k)) cs
  have henter:step P (lone (b.atR a (.inRegion ops (i::rest)::k)) cs w)=
    .next (lone (Frame.ofRow P row args .normal) (b.atR a (.inRegion ops (i::rest)::k)::cs) w'):=
   step_lone_go (by rw [hg];simp [stepG.apply,hr,Frame.atR])
  refine .inl ⟨_,_,hR,.head henter ?_⟩;rw [<-hfin];exact hsteps
 ·rename_i v w' hr;obtain⟨ch,e,hq⟩:=h;injection e with e;subst e;refine .inr ⟨_,w',hq,.one (step_lone_go ?_)⟩;rw [hg,<-Frame.raise_atR];simp [stepG.apply,hr]
 ·exact h.elim
theorem fI {i:Nat} {rest:List Nat} {o:Oper} {K:Act->World->Prop} (ho:ops[i]?=some o) (hw:Region.wanted o (yielded ops a.tmps)=true) (hnd:eI o.op=false)
  (h:o.wp P a w K (fun e a' w'=> ∃ch,e=.panic ch/\False)):
  ∃a' w',K a' w'/\Steps P (lone (b.atR a (.inRegion ops (i::rest)::k)) cs w) (lone (b.atR a' (.inRegion ops rest::k)) cs w'):=by
 rcases mI (Q:=fun _ _=>False) (b:=b) (k:=k) (cs:=cs) (rest:=rest) ho hw hnd h with h1|⟨_,_,h1,_⟩
 ·exact h1
 ·exact h1.elim
theorem lI (hnd: ∀(i:Nat) (o:Oper),ops[i]?=some o->eI o.op=false) {K:Act->World->Prop} : ∀(l:List Nat) (a:Act) (w:World),wpOps P ops (fun e a w=>e=.normal/\K a w) l a w->
  ∃a' w',K a' w'/\Steps P (lone (b.atR a (.inRegion ops l::k)) cs w) (lone (b.atR a' k) cs w')
 | [],a,w,h=>⟨a,w,h.2,.one stepR_region_end⟩
 |i::rest,a,w,h=>by
  simp only [wpOps]at h;cases ho:ops[i]? with
  |none=>
   simp only [ho]at h;obtain⟨a',w',hq,hs⟩:=lI hnd rest a w h;have hs1:=stepR_op_skip (P:=P) (b:=b) (a:=a) (k:=k) (cs:=cs) (w:=w) (ops:=ops) (i:=i) (rest:=rest) (by simp [ho]);simp only [ho,Option.bind_none,Act.put]at hs1;exact⟨a',w',hq,.head hs1 hs⟩
  |some o=>
   simp only [ho]at h;by_cases hw:Region.wanted o (yielded ops a.tmps)=true
   ·simp only [hw,if_true]at h;rcases h with h|⟨_,_,_,e,_⟩
    ·have h2:o.wp P a w (wpOps P ops (fun e a w=>e=.normal/\K a w) rest) (fun e a' w'=> ∃ch,e=.panic ch/\False):=by
      revert h;unfold Oper.wp Oper.upon;split
      ·exact id
      ·exact id
      ·exact id
      ·intro h;refine h.mono (fun e w''=>?_);cases e with
       |returned v=>exact id
       |panicked ch=>intro hx;cases hx.1
       |outgrown=>rintro⟨_,_,e,_⟩;cases e
      ·exact id
      ·intro hx;cases hx.1
      ·exact id
     obtain⟨a1,w1,hk,hs1⟩:=fI (b:=b) (k:=k) (cs:=cs) (rest:=rest) ho hw (hnd i o ho) h2;obtain⟨a',w',hq,hs⟩:=lI hnd rest a1 w1 hk;exact⟨a',w',hq,Steps.trans hs1 hs⟩
    ·cases e
   ·simp only [hw,if_false,Bool.false_eq_true]at h;obtain⟨a',w',hq,hs⟩:=lI hnd rest _ w h
    have hs1:=stepR_op_skip (P:=P) (b:=b) (a:=a) (k:=k) (cs:=cs) (w:=w) (ops:=ops) (i:=i) (rest:=rest)
     (by simp [ho];simpa using hw)
    simp only [ho,Option.bind_some]at hs1;exact⟨a',w',hq,.head hs1 hs⟩
end
section
variable {P:Program} {H H' H1:LH} {ι ι' ι1:Ren} {w w' w1:World} {X:Option Nat}
def pe (tF:TypeId) (v:Value):PanicEntry:= { v:=.iface tF v,recovered:=false }
def M6 (tF:TypeId) (n:Nat->Prop) (ι:Ren):Res->Ending->Prop
 |.ret v,e=> ∃v',e=.returned v'/\VR n ι v v'
 |.pan v,e=> ∃v',e=.panicked [pe tF v']/\VR n ι v v'
 |.jump _,_=>False
def lJ (P:Program) (tF:TypeId) (f:FuncId) (args:List Value) (H:LH) (r:Res) (H':LH):Prop:=
 ∀(ι:Ren) (w:World) (args':Array Value),Rel P H ι w->args.length=args'.size->(∀(i:Nat) (x y:Value),args[i]?=some x->args'[i]?=some y->VR H.D ι x y)->
  Calls P f args' w (fun e w'=> ∃ι',M6 tF H'.D ι' r e/\Out P H ι w H' ι' w')
def QN (p:Option Code):Prop:= ∀c,p=some c-> ∀L N,aP L N c=true
def Iw (P:Program) (L:Loud) (Y:Option YC) (p:Option Code) (H:LH) (ι:Ren) (w:World):Prop:=
 match Y with
 |none=>p=none
 |some yc=>H.D yc.l/\(QN p/\aP L yc.fn.ntmps yc.assign=true/\aP L yc.fn.ntmps yc.body=true)/\ ∃rc,w.heap[(ι yc.l).blk]?=some (.loop rc)/\rc.params.toList=yc.params/\rc.assign=yc.assign/\rc.body=yc.body/\P.funcs[rc.fn]?=some yc.fn/\bV H.D ι yc.fn.ntmps yc.fr rc.tmps/\rc.pending=p/\rc.state=(if p.isNone then .ready else .done)
theorem Iw.out {L:Loud} {Y:Option YC} {p:Option Code} (h:Iw P L Y p H ι w) (hrel:Rel P H ι w) (ho:OutX P none H ι w H' ι' w'):Iw P L Y p H' ι' w':=by
 unfold Iw at h⊢;cases Y with
 |none=>exact h
 |some yc=>
  obtain⟨h1,h0,rc,h2,h3,h4,h5,h6,h7,h8,h9⟩:=h;refine⟨ho.sub _ h1,h0,rc,?_,h3,h4,h5,h6,h7.mono ho.sub ho.same,h8,h9⟩;rw [ho.same _ h1];exact ho.keep hrel h2 k_ (by simp)
def bK (L:Loud) (N:Nat):Item->Bool
 |.code c=>aP L N c
 |.inLoop c=>aP L N c
 |.inScope c=>aP L N c
 |_=>true
structure Pre (P:Program) (E:PEnv) (Y:Option YC) (rd:Nat) (fn:Func) (k:List Item) (fr:Fr) (H:LH) (p:Option Code) (ι:Ren) (b:Frame) (a:Act) (w:World) (cs:List Frame) (B:Nat) (X:Option Nat):Prop where
 items: ∀x∈k,bK E.pl fn.ntmps x=true
 rel:Rel P H ι w
 fr:bV H.D ι fn.ntmps fr a.tmps
 fn:P.funcs[b.fn]?=some fn
 yat:Iw P E.pl Y p H ι w
 yx: ∀yc,Y=some yc->X=some (ι yc.l).blk
 xok: ∀q,X=some q->(∃rc,w.heap[q]?=some (.loop rc))/\ ¬q<H.ng
 rd0:rd=0->b.roundOf=none
 rd1:rd≠0->Y=none/\ ∃lr c cs0 rc,b.roundOf=some lr/\X=some lr/\b.kind=.normal/\cs=c::cs0/\w.heap[lr]?=some (.loop rc)/\(rd=1->rc.state=.ready)
 marks:Marks B w a.defers
 hB:B<=w.heap.size
 hng:H.ng<=B
def Post (P:Program) (L:Loud) (tF:TypeId) (Y:Option YC) (fn:Func) (p':Option Code) (r:Res) (H':LH) (f0 b:Frame) (cs:List Frame) (ι:Ren) (H:LH) (w:World) (B:Nat) (X:Option Nat):Prop:=
 ∃ι' w',OutX P X H ι w H' ι' w'/\Iw P L Y p' H' ι' w'/\match r with
  |.ret v=> ∃a' t' fr',Steps P (lone f0 cs w) (lone { b.atR a' t' with mode:=.returning } cs w')/\Marks B w' a'.defers/\bV H'.D ι' fn.ntmps fr' a'.tmps/\aX P fn fr' H'=some v
  |.pan v=> ∃a' t' v',Steps P (lone f0 cs w) (lone { b.atR a' t' with mode:=.panicking [pe tF v'] } cs w')/\Marks B w' a'.defers/\VR H'.D ι' v v'
  |.jump j=>(Y=none/\QN j)/\ ∃lr c cs0,X=some lr/\cs=c::cs0/\Steps P (lone f0 cs w) (lone (c.finish (.bool j.isNone)) cs0 w')/\ ∀rc,w.heap[lr]?=some (.loop rc)->w'.heap[lr]?=some (.loop { rc with state:=if j.isNone then .ready else .done,pending:=j })
def QO (rd:Nat):Nat:=if rd=3 then 0 else rd
def Sound (P:Program) (E:PEnv):J->Prop
 |.call f args H r H'=>cU P f/\lJ P E.tF f args H r H'
 |.run Y rd fn k fr H p r H' p'=> ∀(ι:Ren) (b:Frame) (a:Act) (w:World) (cs:List Frame) (B:Nat) (X:Option Nat),Pre P E Y (QO rd) fn k fr H p ι b a w cs B X->Post P E.pl E.tF Y fn p' r H' (b.atR a k) b cs ι H w B X
 |.ops Y rd fn all os k fr H p r H' p'=> ∀(m:Nat) (ι:Ren) (b:Frame) (a:Act) (w:World) (cs:List Frame) (B:Nat) (X:Option Nat),os=all.toList.drop m->m<=all.size->Pre P E Y (QO rd) fn k fr H p ι b a w cs B X->
   Post P E.pl E.tF Y fn p' r H' (b.atR a (.inRegion all (List.range' m (all.size-m))::k)) b cs ι H w B X
theorem kr {L:Loud} {tF:TypeId} {Y:Option YC} {fn:Func} {p':Option Code} {r:Res} {f0 f1 b:Frame} {cs:List Frame} {B:Nat} (hs:Steps P (lone f0 cs w) (lone f1 cs w1)) (ho:OutX P X H ι w H1 ι1 w1)
  (hk:Y=none-> ∀q rc,X=some q->w.heap[q]?=some (.loop rc)-> ∃st,w1.heap[q]?=some (.loop { rc with state:=st })) (h:Post P L tF Y fn p' r H' f1 b cs ι1 H1 w1 B X):Post P L tF Y fn p' r H' f0 b cs ι H w B X:=by
 obtain⟨ι',w',h1,h2,h3⟩:=h;refine⟨ι',w',ho.trans h1,h2,?_⟩;cases r with
 |ret v=>obtain⟨a',t',fr',g1,g2⟩:=h3;exact⟨a',t',fr',Steps.trans hs g1,g2⟩
 |pan v=>obtain⟨a',t',v',g1,g2⟩:=h3;exact⟨a',t',v',Steps.trans hs g1,g2⟩
 |jump j=>
  obtain⟨g0,lr,c,cs0,g1,g2,g3,g4⟩:=h3;refine⟨g0,lr,c,cs0,g1,g2,Steps.trans hs g3,fun rc hrc=>?_⟩;obtain⟨st,hst⟩:=hk g0.1 lr rc g1 hrc;exact g4 { rc with state:=st } hst
theorem Pre.xl {E:PEnv} {Y:Option YC} {rd:Nat} {fn:Func} {k:List Item} {fr:Fr} {p:Option Code} {b:Frame} {a:Act} {cs:List Frame} {B:Nat} (h:Pre P E Y rd fn k fr H p ι b a w cs B X): ∀q,X=some q-> ∃rc,w.heap[q]?=some (.loop rc):=fun q hq=>(h.xok q hq).1
theorem ks (hrel:Rel P H ι w) (ho:Out P H ι w H' ι' w') {q:Nat} {rc:Loop} (hq:w.heap[q]?=some (.loop rc)):w'.heap[q]?=some (.loop rc):=
 (ho.x (X:=none)).keep hrel hq k_ (by simp)
theorem Pre.out {E:PEnv} {Y:Option YC} {rd:Nat} {fn:Func} {k k1:List Item} {fr fr1:Fr} {p:Option Code} {b:Frame} {a a1:Act} {cs:List Frame} {B:Nat} (h:Pre P E Y rd fn k fr H p ι b a w cs B X) (ho:Out P H ι w H1 ι1 w1)
  (hf:bV H1.D ι1 fn.ntmps fr1 a1.tmps) (hd:Marks B w1 a1.defers) (hi: ∀x∈k1,bK E.pl fn.ntmps x=true):Pre P E Y rd fn k1 fr1 H1 p ι1 b a1 w1 cs B X:=by
 refine⟨hi,ho.rel,hf,h.fn,h.yat.out h.rel ho.x,fun yc hy=>?_,fun q hq=>?_,h.rd0,fun hr=>?_,?_,Nat.le_trans h.hB ho.chg.size,by rw [ho.ng];exact h.hng⟩
 ·have hD:H.D yc.l:=by have:=h.yat;unfold Iw at this;rw [hy]at this;exact this.1
  rw [ho.same _ hD];exact h.yx yc hy
 ·obtain⟨⟨rc,h1⟩,h2⟩:=h.xok q hq;exact⟨⟨rc,ks h.rel ho h1⟩,by rw [ho.ng];exact h2⟩
 ·obtain⟨h1,lr,c,cs0,rc,h2,h3,h4,h5,h6,h7⟩:=h.rd1 hr;exact⟨h1,lr,c,cs0,rc,h2,h3,h4,h5,ks h.rel ho h6,h7⟩
 ·exact hd
theorem Pre.same {E:PEnv} {Y:Option YC} {rd:Nat} {fn:Func} {k k1:List Item} {fr:Fr} {p:Option Code} {b:Frame} {a:Act} {cs:List Frame} {B:Nat} (h:Pre P E Y rd fn k fr H p ι b a w cs B X)
  (hi: ∀x∈k1,bK E.pl fn.ntmps x=true):Pre P E Y rd fn k1 fr H p ι b a w cs B X:=h.out (Out.refl h.rel) h.fr h.marks hi
theorem gE {L:Loud} {tF:TypeId} {Y:Option YC} {fn:Func} {p':Option Code} {r:Res} {f0 f1 b:Frame} {cs:List Frame} {B:Nat} (hrel:Rel P H ι w) (hs:Steps P (lone f0 cs w) (lone f1 cs w1)) (ho:Out P H ι w H1 ι1 w1)
  (h:Post P L tF Y fn p' r H' f1 b cs ι1 H1 w1 B X):Post P L tF Y fn p' r H' f0 b cs ι H w B X:=
 kr hs ho.x (fun _ q rc _ hq=>⟨rc.state,ks hrel ho hq⟩) h
theorem bY {L:Loud} {tF:TypeId} {Y:Option YC} {fn:Func} {p':Option Code} {r:Res} {f0 f1 b:Frame} {cs:List Frame} {B:Nat} (hrel:Rel P H ι w) (hs:step P (lone f0 cs w)=.next (lone f1 cs w))
  (h:Post P L tF Y fn p' r H' f1 b cs ι H w B X):Post P L tF Y fn p' r H' f0 b cs ι H w B X:=gE hrel (.one hs) (Out.refl hrel) h
theorem rH {L:Loud} {N id:Nat} : ∀ {k k':List Item},exitTo id k=some k'->(∀x∈k,bK L N x=true)-> ∀x∈k',bK L N x=true
 | [],k',h,_=>by simp [exitTo]at h
 |y::k,k',h,hk=>by
  have ih:=@rH L N id k k';have hk2: ∀x∈k,bK L N x=true:=fun x hx=>hk x (List.mem_cons_of_mem _ hx);unfold exitTo at h;split at h
  ·rename_i e;injection e with e1 e2;subst e2;split at h
   ·injection h with h;subst h;exact hk2
   ·exact ih h hk2
  ·rename_i e;injection e with e1 e2;subst e2;exact ih h hk2
  ·rename_i e;cases e
theorem zv {L:Loud} {N l:Nat} : ∀ {c r:Code},findLabel c l=some r->aP L N c=true->aP L N r=true:=by
 intro c;induction c with
 |seq a b iha ihb=>
  intro r h hc;simp only [aP,Bool.and_eq_true]at hc;unfold findLabel at h;split at h
  ·rename_i rest hr;simp only [Option.some.injEq]at h;subst h;simp only [aP,Bool.and_eq_true];exact⟨iha hr hc.1,hc.2⟩
  ·exact ihb h hc.2
 |label l'=>
  intro r h _;unfold findLabel at h;split at h
  ·simp only [Option.some.injEq]at h;subst h;rfl
  ·cases h
 |_=>intro r h;simp [findLabel]at h
theorem rI {L:Loud} {N id:Nat} : ∀ {k k':List Item},gotoIn id k=some k'->(∀x∈k,bK L N x=true)-> ∀x∈k',bK L N x=true
 | [],k',h,_=>by simp [gotoIn]at h
 |y::k,k',h,hk=>by
  have ih:=@rI L N id k k';have hk2: ∀x∈k,bK L N x=true:=fun x hx=>hk x (List.mem_cons_of_mem _ hx);have hy:=hk y (List.mem_cons_self ..);unfold gotoIn at h;split at h
  ·rename_i e;injection e with e1 e2;subst e1 e2;split at h
   ·rename_i rest hr;simp only [Option.some.injEq]at h;subst h;intro x hx;rcases List.mem_cons.1 hx with rfl|hx
    ·exact zv hr hy
    ·rcases List.mem_cons.1 hx with rfl|hx
     ·exact hy
     ·exact hk2 x hx
   ·exact ih h hk2
  ·rename_i e;injection e with e1 e2;subst e2;exact ih h hk2
  ·rename_i e;cases e
end
def zw (P:Program) (tF:TypeId) (f:FuncId):Prop:=cU P f/\ ∀(g:FuncId) (first caps:Array Value) (w:World) (Rr:World->Ending->World->Prop),
 cU P g->(∀w1,Change (fun _=>False) w w1->Calls P g (first++caps) w1 (Rr w1))->(∀w1 e w2,Rr w1 e w2->Change (fun k=>k<w.heap.size) w1 w2/\((∃v,e=.returned v)\/ ∃x y,e=.panicked [pe tF (.agg #[.int .i64 x,.int .i64 y])]))->
 Calls P f #[.func (.func g) first caps] w (fun e w'=> ∃w1 e1 w2,Change (fun _=>False) w w1/\Rr w1 e1 w2/\Change (fun k=>w.heap.size<=k/\k<w1.heap.size) w2 w'/\
  ((∃v,e1=.returned v)/\e=.returned (.tuple #[dR,.bool false])\/ ∃x y,e1=.panicked [pe tF (.agg #[.int .i64 x,.int .i64 y])]/\e=.returned (.tuple #[.agg #[.int .i64 x,.int .i64 y],.bool true])))
section
variable {P:Program} {H H' H1:LH} {ι ι' ι1:Ren} {w w' w1:World} {X:Option Nat}
theorem pH {n:Nat->Prop} {g:FuncId} {first caps:Array Value} {v':Value} (h:VR n ι (.func (.func g) first caps) v'): ∃f' c',v'=.func (.func g) f' c'/\first.size=f'.size/\caps.size=c'.size/\
  (∀(i:Nat) (x y:Value),first[i]?=some x->f'[i]?=some y->VR n ι x y)/\ ∀(i:Nat) (x y:Value),caps[i]?=some x->c'[i]?=some y->VR n ι x y:=by
 cases h with
 |flat _ hv=>
  have h2:first.size=0/\caps.size=0:=by simpa [ao,az,aA]using hv
  have e0:first=#[]:=Array.eq_empty_of_size_eq_zero h2.1
  have e1:caps=#[]:=Array.eq_empty_of_size_eq_zero h2.2;subst e0 e1;exact⟨_,_,rfl,rfl,rfl,fun i x y hx _=>by simp at hx,fun i x y hx _=>by simp at hx⟩
 |func _ _ b _ d g1 g2 g3 g4=>exact⟨b,d,rfl,g1,g2,g3,g4⟩
theorem Ix {n:Nat->Prop} {l:Nat} {v':Value} (h:VR n ι (tok l) v'):v'=.func (.yield (ι l).blk) #[] #[]/\n l:=by
 unfold tok at h;cases h with
 |flat _ hv=>simp [ao,az,aA]at hv
 |yld _ hl=>exact⟨rfl,hl⟩
theorem js {n:Nat->Prop} {xs:Array Value} {us:Array Value} (h1:xs.size=us.size) (h2: ∀(i:Nat) (x y:Value),xs[i]?=some x->us[i]?=some y->VR n ι x y):
  xs.toList.length=us.size/\ ∀(i:Nat) (x y:Value),xs.toList[i]?=some x->us[i]?=some y->VR n ι x y:=⟨by simpa using h1,fun i x y hx hy=>h2 i x y (by simpa using hx) hy⟩
theorem vw {N:Nat} {fr:Fr} {a:Act} {o:Oper} {tF:TypeId} {x:Operand} {args:Array Operand} {ts:Array TypeId} {g:FuncId} {first caps:Array Value} {r:Res} (hrel:Rel P H ι w) (hfr:bV H.D ι N fr a.tmps) (ho:o.op=.call ⟨.value x,args,ts⟩)
  (hx:ev fr x=.func (.func g) first caps) (hE:cU P g) (hc:lJ P tF g (first.toList++args.toList.map (ev fr)++caps.toList) H r H'):
  o.wp P a w (fun a' w'=> ∃ι' v v',r=.ret v/\a'=a.put o.dst v'/\Out P H ι w H' ι' w'/\VR H'.D ι' v v') (fun e a' w'=> ∃ch,e=.panic ch/\ ∃ι' v v',r=.pan v/\ch= [pe tF v']/\Out P H ι w H' ι' w'/\VR H'.D ι' v v'):=by
 have h1:=hfr.ev x;rw [hx]at h1;obtain⟨f',c',e,k1,k2,k3,k4⟩:=pH h1
 have hrun:(execOp a.eval o).run P w=.ok (.enter g (f'++args.map a.eval++c')) w:=by
  unfold execOp;simp only [ho,resolve,e,Deferred.ofValue,Sem.run_bind,Sem.run_pure,Result.andThen_ok,invoke];exact gW hE _
 obtain⟨h2,h3⟩:=fG hfr args;obtain⟨m1,m2⟩:=js k1 k3;obtain⟨m3,m4⟩:=fW m1 h2 m2 h3;obtain⟨m5,m6⟩:=js k2 k4;obtain⟨m7,m8⟩:=fW m3 m5 m4 m6;unfold Oper.wp;rw [hrun,Oper.upon_enter];refine(hc ι w _ hrel m7 m8).mono ?_;rintro e' w' ⟨ι',hr,hout⟩;cases r with
 |ret v=>obtain⟨v',rfl,hv⟩:=hr;exact⟨ι',v,v',rfl,rfl,hout,hv⟩
 |pan v=>obtain⟨v',rfl,hv⟩:=hr;exact⟨_,rfl,ι',v,v',rfl,rfl,hout,hv⟩
 |jump j=>exact hr.elim
theorem rJ {n:Nat->Prop} {N:Nat} : ∀(ps:List Tmp) (vs:List Value) (us:List Value) (fr:Fr) (tmps:Array Value),bV n ι N fr tmps->(∀d∈ps,d<N)->vs.length=us.length->
  (∀(i:Nat) (x y:Value),vs[i]?=some x->us[i]?=some y->VR n ι x y)->bV n ι N (mH fr (ps.zip vs)) ((ps.zip us).foldl (fun t (d,v)=>t.setIfInBounds d v) tmps)
 | [],vs,us,fr,tmps,h,_,_,_=>by simpa [mH]using h
 |p::ps,[],us,fr,tmps,h,_,hl,_=>by
  have:us= []:=List.length_eq_zero_iff.1 (by simpa using hl.symm);subst this;simpa [mH]using h
 |p::ps,v::vs,[],fr,tmps,h,_,hl,_=>by simp at hl
 |p::ps,v::vs,u::us,fr,tmps,h,hp,hl,hv=>by
  simp only [List.zip_cons_cons,mH,List.foldl_cons];refine rJ ps vs us _ _ ?_ (fun d hd=>hp d (List.mem_cons_of_mem _ hd)) (by simpa using hl) (fun i x y hx hy=>hv (i+1) x y (by simpa using hx) (by simpa using hy));have:=bV.put (a:=⟨tmps,[]⟩) (d:=some p) (v:=v) (v':=u) (fr':=upd fr p v) h (by unfold bb;simp only;rw [if_pos (hp p (List.mem_cons_self ..))]) (hv 0 v u rfl rfl);exact this
theorem drop_cons {all:Array Oper} {m:Nat} {o:Oper} {os:List Oper} (h:o::os=all.toList.drop m):m<all.size/\all[m]?=some o/\os=all.toList.drop (m+1)/\List.range' m (all.size-m)=m::List.range' (m+1) (all.size-(m+1)):=by
 have hl:m<all.size:=by
  rcases Nat.lt_or_ge m all.size with h1|h1
  ·exact h1
  ·rw [List.drop_eq_nil_of_le (by simpa using h1)]at h;cases h
 rw [List.drop_eq_getElem_cons (by simpa using hl)]at h;injection h with h1 h2;refine⟨hl,by rw [h1,Array.getElem?_eq_getElem hl];simp,h2,?_⟩;obtain⟨n,hn⟩: ∃n,all.size-m=n+1:=⟨all.size-m-1,by omega⟩
 rw [hn,show all.size-(m+1)=n by omega,List.range'_succ]
theorem zx (h:Rel P H ι w) {q:Nat} (hw:Change (fun _=>False) w w1):Rel P H.dead (ι.add H.n ⟨q,0,0⟩) w1:=by
 have h':=dQ h hw;have hD: ∀l,H.D l->H.dead.D l:=fun l hl=>⟨Nat.lt_succ_of_lt hl.1,hl.2⟩
 have hi: ∀l,H.D l->ι.add H.n ⟨q,0,0⟩ l=ι l:=fun l hl=>by unfold Ren.add;rw [if_neg (Nat.ne_of_lt hl.1)]
 have hne: ∀ {l b},H.get l=some b->ι.add H.n ⟨q,0,0⟩ l=ι l:=fun hb=>hi _ (h'.live hb);refine⟨fun l hl=>h'.dom l (Nat.le_of_succ_le hl),fun l hl=>⟨Nat.lt_succ_of_lt (h'.hol l hl).1,(h'.hol l hl).2⟩,fun l b hb=>?_,fun l l' b b' hb hb' hr hll=>?_,fun g hg=>?_⟩
 ·have hb':H.get l=some b:=hb;obtain⟨arr,t,f,g1,g2,g3,g4⟩:=h'.blk l b hb';rw [hne hb'];exact⟨arr,t,f,g1,g2,fun i v hv=>(g3 i v hv).imp fun v' hv'=>⟨hv'.1,hv'.2.mono hD hi⟩,g4⟩
 ·rw [hne hb,hne hb'];exact h'.sep l l' b b' hb hb' hr hll
 ·obtain⟨g1,g2,g3⟩:=h'.pin g hg;refine⟨g1,g2,?_⟩;rintro⟨l,b,hb,hr,e⟩;exact g3 ⟨l,b,hb,hr,by rw [<-hne hb];exact e⟩
theorem vx (h:Rel P H ι w) {q k:Nat} :RW H.dead (ι.add H.n ⟨q,0,0⟩) k->RW H ι k:=by
 rintro⟨l,b,hb,hr,e⟩;refine⟨l,b,hb,hr,?_⟩;have:ι.add H.n ⟨q,0,0⟩ l=ι l:=by unfold Ren.add;rw [if_neg (Nat.ne_of_lt (h.live hb).1)]
 rw [<-this];exact e
theorem zy (h:Rel P H ι w) {q k:Nat} :lE H.dead (ι.add H.n ⟨q,0,0⟩) k->lE H ι k:=by
 rintro⟨l,b,hb,e⟩;refine⟨l,b,hb,?_⟩;have:ι.add H.n ⟨q,0,0⟩ l=ι l:=by unfold Ren.add;rw [if_neg (Nat.ne_of_lt (h.live hb).1)]
 rw [<-this];exact e
theorem rK (h:Rel P H ι w):H.ng<=w.heap.size:=by
 rcases Nat.eq_zero_or_pos H.ng with h0|h0
 ·omega
 ·have:=(h.pin (H.ng-1) (by omega)).2.1;omega
theorem tI {E:PEnv} {Y:Option YC} {rd:Nat} {fn:Func} {k:List Item} {fr:Fr} {p:Option Code} {b:Frame} {a:Act} {cs:List Frame} {B:Nat} (h:Pre P E Y rd fn k fr H p ι b a w cs B X) (ps:Array Tmp) (assign body:Code):
  ∃l mark w1 dd,(Instr.enterLoop b.fn a.tmps ps assign body b.roundOf).run P w=.ok (l,mark) w1/\w1.heap[l]?=some (.loop { state:=.ready,pending:=none,fn:=b.fn,tmps:=a.tmps,params:=ps,assign,body,defers:=dd })/\Change (fun _=>False) w w1/\w.heap.size<=l/\Marks B w1 (mark++a.defers):=by
 have hmk: ∀w1,Change (fun _=>False) w w1->Marks B w1 a.defers:=fun w1 hc=>h.marks.out (X:=none) (c_ h.rel hc).x h.rel (by simp)
 have lt: ∀d∈a.defers,∀r,d= { target:=.collected r,args:=#[] } ->r<w.heap.size:=by
  have: ∀(ds:List Deferred),Marks B w ds-> ∀d∈ds,∀r,d= { target:=.collected r,args:=#[] } ->r<w.heap.size:=by
   intro ds;induction ds with
   |nil=>intro _ d hd;cases hd
   |cons x xs ih=>
    rintro⟨⟨r,h1,_,h3,_⟩,h5⟩ d hd r' e;rcases List.mem_cons.1 hd with rfl|hd
    ·rw [h1]at e;injection e with e;injection e with e;subst e;exact(Array.getElem?_eq_some_iff.1 h3).1
    ·exact ih h5 d hd r' e
  exact this _ h.marks
 cases hro:b.roundOf with
 |none=>
  have hc:Change (fun _=>False) w ((w.alloc (.deferred (some []))).alloc (.loop { state:=.ready,pending:=none,fn:=b.fn,tmps:=a.tmps,params:=ps,assign,body,defers:=w.heap.size })):=((Change.refl _ w).alloc _).alloc _;refine⟨_,_,_,w.heap.size,run_enterLoop_outer b.fn a.tmps ps assign body,?_,hc,Nat.le_succ _,?_⟩
  ·have:=World.alloc_heap_new (w.alloc (.deferred (some []))) (.loop { state:=.ready,pending:=none,fn:=b.fn,tmps:=a.tmps,params:=ps,assign,body,defers:=w.heap.size })
   rwa [World.size_alloc]at this
  ·refine⟨⟨w.heap.size,rfl,h.hB,?_,fun d hd e=>?_⟩,hmk _ hc⟩
   ·rw [Below.heap_alloc _ _ _ (by simp)];exact World.alloc_heap_new w _
   ·have:=lt d hd _ e;omega
 |some lr=>
  have hr:rd≠0:=fun e=>by have:=h.rd0 e;rw [hro]at this;cases this
  obtain⟨_,lr',c,cs0,rc,h1,_,_,_,h5,_⟩:=h.rd1 hr;rw [hro]at h1;injection h1 with h1;subst h1;have hc:Change (fun _=>False) w (w.alloc (.loop { state:=.ready,pending:=none,fn:=b.fn,tmps:=a.tmps,params:=ps,assign,body,defers:=rc.defers })):=(Change.refl _ w).alloc _;refine⟨w.heap.size,[],_,rc.defers,?_,World.alloc_heap_new _ _,hc,Nat.le_refl _,hmk _ hc⟩;unfold Instr.enterLoop;simp only [Sem.run_bind,run_getLoop h5,run_newObj_alloc,Result.andThen,Sem.run_pure]
end
section
variable {P:Program} {E:PEnv}
theorem bZ {x:Item} {k:List Item} {L:Loud} {N:Nat} (h: ∀y∈x::k,bK L N y=true):bK L N x=true/\ ∀y∈k,bK L N y=true:=⟨h x (List.mem_cons_self ..),fun y hy=>h y (List.mem_cons_of_mem _ hy)⟩
theorem cA {x:Item} {k:List Item} {L:Loud} {N:Nat} (h1:bK L N x=true) (h2: ∀y∈k,bK L N y=true): ∀y∈x::k,bK L N y=true:=fun y hy=>by
 rcases List.mem_cons.1 hy with rfl|hy
 ·exact h1
 ·exact h2 y hy
theorem mJ {f:FuncId} {fn:Func} {c:Code} {args:List Value} {H:LH} {r:Res} {H':LH} (hf:rF P E f fn c args) (ih:Sound P E (.run none 0 fn [.code c] (enter args) H none r H' none)):Sound P E (.call f args H r H'):=by
 obtain⟨h1,h2,h3,h4,h5⟩:=hf;refine⟨⟨fn,h1,by rw [h2];rfl,h4⟩,?_⟩;intro ι w args' hrel hl hargs cs
 let b:Frame:= { (default:Frame)with fn:=f,kind:=.normal }
 let a:Act:= { tmps:=args'++Array.replicate (fn.ntmps-args'.size) undef,defers:= [] }
 have henter:Frame.enter P f args' .normal=b.atR a [.code c]:=by simp [Frame.enter,Frame.atR,h1,h2,b,a];rfl
 have pre:Pre P E none 0 fn [.code c] (enter args) H none ι b a w cs w.heap.size none:=
  ⟨cA h5 (by simp),hrel,kq hl hargs h3,h1,rfl,(fun _ h=>by cases h),(fun _ h=>by cases h),fun _=>rfl,(fun h=>absurd rfl h),trivial,Nat.le_refl _,rK hrel⟩
 obtain⟨ι',w',ho,hy,hp⟩:=ih ι b a w cs w.heap.size none pre;rw [<-henter]at hp;have ho:=ho.out
 have fin: ∀(a':Act) (t':List Item) (md:FrameMode),md≠.run->Marks w.heap.size w' a'.defers-> ∃w2,Steps P (lone { b.atR a' t' with mode:=md } cs w') (lone { b.atR { a' with defers:= [] } t' with mode:=md } cs w2)/\Out P H ι w H' ι' w2:=by
  intro a' t' md hmd hmk;obtain⟨w2,g1,g2⟩:=gD (P:=P) (cs:=cs) a'.defers { b.atR a' t' with mode:=md } w' hmd rfl hmk;refine⟨w2,g1,?_⟩
  have hr2:Rel P H' ι' w2:=g_ ho.rel g2 (fun k hk=>by
   refine⟨fun hi=>?_,?_⟩
   ·obtain⟨arr,t,f,hw⟩:=dS ho.rel hi;rw [hk.2]at hw;cases hw
   ·have:=rK hrel;have:=hk.1;rw [ho.ng];omega)
  exact⟨hr2,ho.n,ho.sub,ho.same,ho.chg.trans g2 (fun k hk=>.inr hk.1),ho.rw,ho.img,ho.ng⟩
 cases r with
 |ret v=>
  obtain⟨a',t',fr',g1,g2,g3,g4⟩:=hp;obtain⟨w2,s2,ho2⟩:=fin a' t' .returning (by simp) g2;obtain⟨v',hr,hv⟩:=iG ho2.rel g3 g4;exact⟨.returned v',w2,_,⟨ι',⟨v',rfl,hv⟩,ho2⟩,Steps.trans g1 s2,rfl,rfl,rfl,rfl,fn,h1,hr⟩
 |pan v=>
  obtain⟨a',t',v',g1,g2,g3⟩:=hp;obtain⟨w2,s2,ho2⟩:=fin a' t' (.panicking [pe E.tF v']) (by simp) g2;exact⟨.panicked [pe E.tF v'],w2,_,⟨ι',⟨v',rfl,g3⟩,ho2⟩,Steps.trans g1 s2,rfl,rfl,rfl,fn,h1⟩
 |jump j=>
  obtain⟨_,lr,_,_,e,_⟩:=hp;cases e
theorem zz {H H':LH} {ι ι':Ren} {w w':World} (hrel:Rel P H ι w) (ho:Out P H ι w H' ι' w') (hle:H.le H'):Out P H ι w H ι w':=ox hrel ho hle
theorem rL {f:FuncId} {args:List Value} {H:LH} {r:Res} {H':LH} (ih:Sound P E (.call f args H r H')) (hf:zt r=true) (hle:H.le H'):Sound P E (.call f args H r H):=by
 refine⟨ih.1,fun ι w args' hrel hl hargs=>(ih.2 ι w args' hrel hl hargs).mono ?_⟩;rintro e w' ⟨ι',hr,ho⟩;refine⟨ι,?_,zz hrel ho hle⟩;cases r with
 |ret v=>obtain⟨v',rfl,hv⟩:=hr;exact⟨v',rfl,by rw [aE hv hf];exact .flat _ hf⟩
 |pan v=>obtain⟨v',rfl,hv⟩:=hr;exact⟨v',rfl,by rw [aE hv hf];exact .flat _ hf⟩
 |jump j=>exact hr
theorem oB {f g:FuncId} {first caps:Array Value} {H:LH} {r:Res} {H':LH} (hc:zw P E.tF f) (ih:Sound P E (.call g (first.toList++caps.toList) H r H')) (v:Value)
  (hr:(∃u,r=.ret u)/\v=.tuple #[dR,.bool false]\/ ∃x y,r=.pan (.agg #[.int .i64 x,.int .i64 y])/\v=.tuple #[.agg #[.int .i64 x,.int .i64 y],.bool true]):Sound P E (.call f [.func (.func g) first caps] H (.ret v) H'):=by
 have hvf:ao v=true:=by rcases hr with⟨_,rfl⟩|⟨x,y,_,rfl⟩<;>rfl
 refine⟨hc.1,fun ι w args' hrel hl hargs=>?_⟩;obtain⟨l⟩:=args'
 match l,hl with
 | [u],_=>
 obtain⟨f',c',rfl,k1,k2,k3,k4⟩:=pH (hargs 0 _ _ rfl rfl);obtain⟨m1,m2⟩:=js k1 k3;obtain⟨m3,m4⟩:=js k2 k4;obtain⟨m5,m6⟩:=fW m1 m3 m2 m4;refine(hc.2 g f' c' w (fun w1 e w2=> ∃ι',M6 E.tF H'.D ι' r e/\Out P H ι w1 H' ι' w2) ih.1 (fun w1 hw1=>ih.2 ι w1 _ (dQ hrel hw1) m5 m6) (fun w1 e w2 ⟨ι',hrr,hoo⟩=>⟨hoo.chg.mono (fun k _ hk=>?_),?_⟩)).mono ?_
 ·obtain⟨l,b,hb,_,rfl⟩:=hk;obtain⟨arr,t,ff,hw⟩:=dS hrel ⟨l,b,hb,rfl⟩;exact(Array.getElem?_eq_some_iff.1 hw).1
 ·rcases hr with⟨⟨u,rfl⟩,_⟩|⟨x,y,rfl,_⟩
  ·obtain⟨v',rfl,_⟩:=hrr;exact .inl ⟨v',rfl⟩
  ·obtain⟨v',rfl,hv⟩:=hrr;exact .inr ⟨x,y,by rw [aE hv rfl]⟩
 ·rintro e w' ⟨w1,e1,w2,c1,⟨ι',hrr,ho⟩,c2,hcase⟩
  have hwv:e=.returned v:=by
   rcases hr with⟨⟨u,rfl⟩,rfl⟩|⟨x,y,rfl,rfl⟩
   ·obtain⟨v',rfl,_⟩:=hrr;rcases hcase with⟨_,h⟩|⟨x,y,h,_⟩
    ·exact h
    ·cases h
   ·obtain⟨v',rfl,hv⟩:=hrr;rw [aE hv rfl]at hcase;rcases hcase with⟨⟨_,h⟩,_⟩|⟨x',y',h,h2⟩
    ·cases h
    ·simp only [Ending.panicked.injEq,List.cons.injEq,pe,PanicEntry.mk.injEq,Value.iface.injEq]at h;have:=h.1.1.2;simp at this;obtain⟨rfl,rfl⟩:=this;exact h2
  refine⟨ι',⟨v,hwv,.flat _ hvf⟩,?_⟩
  have hS: ∀k,(w.heap.size<=k/\k<w1.heap.size)-> ¬lE H' ι' k/\ ¬k<H'.ng:=fun k hk=>by
   refine⟨fun hi=>?_,by rw [ho.ng];have:=rK hrel;omega⟩;rcases ho.img k hi with h1|h1
   ·obtain⟨arr,t,ff,hw⟩:=dS hrel h1;have:=(Array.getElem?_eq_some_iff.1 hw).1;omega
   ·omega
  refine⟨g_ ho.rel c2 hS,ho.n,ho.sub,ho.same,?_,fun k hk=>?_,fun k hk=>?_,ho.ng⟩
  ·refine((c1.mono (fun _ _ h=>h.elim)).trans ho.chg (fun i hi=>.inl hi)).trans c2 (fun i hi=>.inr hi.1)
  ·rcases ho.rw k hk with h1|h1
   ·exact .inl h1
   ·exact .inr (Nat.le_trans c1.size h1)
  ·rcases ho.img k hk with h1|h1
   ·exact .inl h1
   ·exact .inr (Nat.le_trans c1.size h1)
theorem gF {fn:Func} {k:List Item} {fr:Fr} {H:LH} {j:Option Code} (hj:QN j)
  (hs: ∀(b:Frame) (a:Act) (w w':World) (c:Frame) (cs:List Frame) (lr:Nat) (v:Value),b.roundOf=some lr->b.kind=.normal->(Instr.endRound lr j).run P w=.ok v w'->step P (lone (b.atR a k) (c::cs) w)=.next (lone (c.finish v) cs w')):
  Sound P E (.run none 2 fn k fr H none (.jump j) H none):=by
 intro ι b a w cs B X h;obtain⟨_,lr,c,cs0,rc,h1,h2,h3,rfl,h5,_⟩:=h.rd1 (by decide);have hng:=(h.xok lr h2).2;have hr:=run_endRound (P:=P) j h5
 have hch:OutX P X H ι w H ι (w.putObj lr (.loop { rc with state:=if j.isNone then .ready else .done,pending:=j })):=
  rG h.rel eT (fun k hk=>by
   subst hk;refine⟨fun hi=>?_,hng⟩;obtain⟨arr,t,f,hw⟩:=dS h.rel hi;rw [h5]at hw;cases hw) (fun k _ hk=>by subst hk;exact h2)
 refine⟨ι,_,hch,rfl,⟨rfl,hj⟩,lr,c,cs0,h2,rfl,.one (hs b a w _ c cs0 lr _ h1 h3 hr),fun rc' h'=>?_⟩;rw [h5]at h';injection h' with h';injection h' with h';subst h';exact World.putObj_heap_same (Array.getElem?_eq_some_iff.1 h5).1
theorem wQ {fn:Func} {k:List Item} {fr:Fr} {H:LH} {r:Res} {H':LH} (ih:Sound P E (.run none 2 fn k fr H none r H' none)):Sound P E (.run none 1 fn (.beginRound::k) fr H none r H' none):=by
 intro ι b a w cs B X h;obtain⟨_,lr,c,cs0,rc,h1,h2,h3,rfl,h5,h6⟩:=h.rd1 (by decide);have hng:=(h.xok lr h2).2;have hst:=stepR_beginRound (P:=P) (b:=b) (a:=a) (k:=k) (cs:=c::cs0) h1 (run_beginRound (P:=P) h5 (h6 rfl))
 have hi: ¬lE H ι lr:=fun hi=>by
  obtain⟨arr,t,f,hw⟩:=dS h.rel hi;rw [h5]at hw;cases hw
 have hch:OutX P X H ι w H ι (w.putObj lr (.loop { rc with state:=.busy })):=
  rG h.rel eT (fun k hk=>by subst hk;exact⟨hi,hng⟩) (fun k _ hk=>by subst hk;exact h2)
 have hnew:(w.putObj lr (.loop { rc with state:=.busy })).heap[lr]?=some (.loop { rc with state:=.busy }):=World.putObj_heap_same (Array.getElem?_eq_some_iff.1 h5).1;refine kr (.one hst) hch (fun _ q rc' hq hrc'=>?_) (ih ι b a _ (c::cs0) B X ⟨(bZ h.items).2,hch.rel,h.fr,h.fn,rfl,(fun _ h=>by cases h),fun q hq=>?_,(fun h=>by cases h),fun _=>⟨rfl,lr,c,cs0,_,h1,h2,h3,rfl,hnew,fun h=>by cases h⟩,?_,by simpa using h.hB,h.hng⟩)
 ·rw [h2]at hq;injection hq with hq;subst hq;rw [h5]at hrc';injection hrc' with hrc';injection hrc' with hrc';subst hrc';exact⟨.busy,hnew⟩
 ·rw [h2]at hq;injection hq with hq;subst hq;exact⟨⟨_,hnew⟩,hng⟩
 ·exact h.marks.out hch h.rel h.xl
end
section
variable {P:Program} {l:List Oper} {o:Oper}
structure LastOk (l:List Oper) (o:Oper):Prop where
 bit: ∀i,i<l.length->fE (cO (l++ [o]) []) l.length i=true
 after: ∀e∈o.after,Region.binds .any e=true->e.on<l.length
 back: ∀x∈l,∀e∈x.after,Region.binds .any e=true->e.on<l.length
 guard: ∀x∈l,∀g b,x.guard=some (g,b)->g<l.length
theorem tJ (h:kZ l o=true):LastOk l o:=by
 unfold kZ at h;simp only [Bool.and_eq_true]at h;obtain⟨⟨h1,h2⟩,h3⟩:=h
 have bnd: ∀e:Edge,(!Region.binds .any e||decide (e.on<l.length))=true->Region.binds .any e=true->e.on<l.length:=fun e he hb=>by
  rw [hb]at he;simpa using he
 refine⟨fun i hi=>List.all_eq_true.1 h1 i (List.mem_range.2 hi),fun e he hb=>bnd e (List.all_eq_true.1 h2 e (Array.mem_toList_iff.2 he)) hb,fun x hx e he hb=>?_,fun x hx g b hg=>?_⟩
 ·have:=List.all_eq_true.1 h3 x hx;rw [Bool.and_eq_true]at this;exact bnd e (List.all_eq_true.1 this.1 e (Array.mem_toList_iff.2 he)) hb
 ·have:=List.all_eq_true.1 h3 x hx;rw [Bool.and_eq_true]at this;have:=this.2;rw [hg]at this;simpa using this
theorem lK {i:Nat} (hi:i<l.length):(⟨l++ [o]⟩:Array Oper)[i]?=(⟨l⟩:Array Oper)[i]?:=by
 rw [List.getElem?_toArray,List.getElem?_toArray,List.getElem?_append_left hi]
theorem zA:(⟨l++ [o]⟩:Array Oper)[l.length]?=some o:=by
 rw [List.getElem?_toArray];simp
theorem dc {a:Array Bool} {i:Nat} {d:Bool} (hi:i<a.size):(a.push false).getD i d=a.getD i d:=by
 rw [Array.getD_eq_getD_getElem?,Array.getD_eq_getD_getElem?,Array.getElem?_push];rw [if_neg (by omega)]
theorem oC {a:Array Bool} {d:Bool} :(a.push false).getD a.size d=false:=by
 rw [Array.getD_eq_getD_getElem?,Array.getElem?_push];simp
theorem zB {a:Array Bool} {i:Nat} (hi:i<a.size):(a.push false).setIfInBounds i true=(a.setIfInBounds i true).push false:=by
 apply Array.ext
 ·simp
 ·intro j h1 h2
  have e1:((a.push false).setIfInBounds i true)[j]?=((a.setIfInBounds i true).push false)[j]?:=by
   rw [Array.getElem?_setIfInBounds,Array.getElem?_push,Array.getElem?_push,Array.getElem?_setIfInBounds];by_cases e:i=j
   ·subst e;simp [hi];rw [if_pos (by omega),if_neg (by omega)]
   ·simp [e]
  rw [Array.getElem?_eq_getElem h1,Array.getElem?_eq_getElem h2]at e1;exact Option.some.inj e1
theorem tK (h:LastOk l o) {ls:Array Bool} (hs:ls.size=l.length) {i:Nat} (hi:i<l.length):i∈Region.ready .any ⟨l++ [o]⟩ (ls.push false)↔i∈Region.ready .any ⟨l⟩ ls:=by
 rw [mem_ready,mem_ready,dc (by omega),lK hi];refine and_congr_right (fun _=>exists_congr (fun x=>and_congr_right (fun hx=>?_)))
 have hm:x∈l:=by
  rw [List.getElem?_toArray]at hx;exact List.mem_of_getElem? hx
 constructor
 ·intro g e he hb;have:=g e he hb
  rwa [dc (by rw [hs];exact h.back x hm e he hb)]at this
 ·intro g e he hb;rw [dc (by rw [hs];exact h.back x hm e he hb)];exact g e he hb
theorem DK (h:LastOk l o) {ls:Array Bool} (hs:ls.size=l.length) (hc:Cl ⟨l⟩ ls):Cl ⟨l++ [o]⟩ (ls.push false):=by
 intro j x hx hl e he hb;unfold LS at hl⊢;rcases Nat.lt_or_ge j l.length with hj|hj
 ·rw [dc (by omega)]at hl;rw [lK hj]at hx
  have hm:x∈l:=by
   rw [List.getElem?_toArray]at hx;exact List.mem_of_getElem? hx
  rw [dc (by rw [hs];exact h.back x hm e he hb)];exact hc j x hx hl e he hb
 ·have hj2:=(Array.getElem?_eq_some_iff.1 hx).1;have:j=l.length:=by simp at hj2;omega
  subst this;rw [<-hs,oC]at hl;cases hl
theorem zC (h:LastOk l o) {ls:Array Bool} (hs:ls.size=l.length) (hc:Cl ⟨l⟩ ls) {i:Nat} (hi:i∈Region.ready .any ⟨l⟩ ls):l.length∉Region.ready .any ⟨l++ [o]⟩ (ls.push false):=by
 intro hr;obtain⟨h1,h2⟩:=bX hi;have:=eS (DK h hs hc) hr (h.bit i h1);unfold LS at this;rw [dc (by rw [hs];exact h1),h2]at this;cases this
theorem wR (h:LastOk l o) {ls:Array Bool} (hs:ls.size=l.length) (hc:Cl ⟨l⟩ ls) (hn:Region.ready .any ⟨l⟩ ls≠ []):Region.ready .any ⟨l++ [o]⟩ (ls.push false)=Region.ready .any ⟨l⟩ ls:=by
 obtain⟨i,hi⟩:=List.exists_mem_of_ne_nil _ hn;have hl:=zC h hs hc hi;unfold Region.ready at hl⊢;rw [show(⟨l++ [o]⟩:Array Oper).size=l.length+1 by simp,List.range_succ,List.filter_append];rw [show(⟨l⟩:Array Oper).size=l.length from rfl]
 have e2: [l.length].filter (fun i=>!(ls.push false).getD i true&&(((⟨l++ [o]⟩:Array Oper)[i]?).map (·.after.all fun e=>!Region.binds .any e||(ls.push false).getD e.on false)).getD false)= []:=by
  rw [List.filter_eq_nil_iff];intro j hj;rw [List.mem_singleton]at hj;subst hj;intro hp;apply hl;rw [show(⟨l++ [o]⟩:Array Oper).size=l.length+1 by simp];exact List.mem_filter.2 ⟨List.mem_range.2 (Nat.lt_succ_self _),hp⟩
 rw [e2,List.append_nil];apply List.filter_congr;intro j hj;have hj:=List.mem_range.1 hj;have h1:=tK h hs hj;unfold Region.ready at h1;rw [List.mem_filter,List.mem_filter,show(⟨l++ [o]⟩:Array Oper).size=l.length+1 by simp,show(⟨l⟩:Array Oper).size=l.length from rfl]at h1;simp only [List.mem_range,hj,Nat.lt_succ_of_lt hj,true_and]at h1;rw [Bool.eq_iff_iff];exact h1
theorem tL {ls:Array Bool} (hb: ∀i x,(⟨l⟩:Array Oper)[i]?=some x-> ∀e∈x.after,Region.binds .any e=true->e.on<i) (hs:ls.size=l.length) (hn:Region.ready .any ⟨l⟩ ls= []): ∀i,i<l.length->ls.getD i true=true:=by
 have key: ∀n i,i<n->i<l.length->ls.getD i true=true:=by
  intro n;induction n with
  |zero=>intro i hi;omega
  |succ n ih=>
   intro i hin hil;rcases dF (listed:=ls) (k:=i)with h1|h1
   ·exact h1
   ·exfalso
    have:i∈Region.ready .any ⟨l⟩ ls:=by
     refine mem_ready.2 ⟨h1,_,Array.getElem?_eq_getElem (show i<(⟨l⟩:Array Oper).size from hil),fun e he hbe=>?_⟩;have hlt:=hb i _ (Array.getElem?_eq_getElem (show i<(⟨l⟩:Array Oper).size from hil)) e he hbe;exact jh (by omega) (ih e.on (by omega) (by omega))
    rw [hn]at this;cases this
 exact fun i hi=>key (i+1) i (Nat.lt_succ_self _) hi
theorem tM (h:LastOk l o) {ls:Array Bool} (hs:ls.size=l.length) (hall: ∀i,i<l.length->ls.getD i true=true):Region.ready .any ⟨l++ [o]⟩ (ls.push false)= [l.length]:=by
 have hm:l.length∈Region.ready .any ⟨l++ [o]⟩ (ls.push false):=by
  refine mem_ready.2 ⟨by rw [<-hs,oC],o,zA,fun e he hb=>?_⟩;have:=h.after e he hb;rw [dc (by omega)];exact jh (by omega) (hall _ this)
 unfold Region.ready at hm⊢;rw [show(⟨l++ [o]⟩:Array Oper).size=l.length+1 by simp]at hm⊢;rw [List.range_succ,List.filter_append]
 have e1:(List.range l.length).filter (fun i=>!(ls.push false).getD i true&&(((⟨l++ [o]⟩:Array Oper)[i]?).map (·.after.all fun e=>!Region.binds .any e||(ls.push false).getD e.on false)).getD false)= []:=by
  rw [List.filter_eq_nil_iff];intro j hj;have hj:=List.mem_range.1 hj;rw [dc (by omega),hall j hj];simp
 rw [e1,List.nil_append,List.filter_eq_self];intro j hj;rw [List.mem_singleton]at hj;subst hj;exact(List.mem_filter.1 hm).2
theorem tN {ls:Array Bool} (hall: ∀i,i<l.length+1->ls.getD i true=true):Region.ready .any ⟨l++ [o]⟩ ls= []:=by
 rw [List.eq_nil_iff_forall_not_mem];intro i hi;obtain⟨h1,h2⟩:=bX hi;rw [hall i (by simpa using h1)]at h2;cases h2
theorem tO {ops:Array Oper} {ls:Array Bool} (h:Region.ready .any ops ls= []) (fuel t:Nat):Region.linearise.go .any ops fuel t ls []= []:=by
 cases fuel with
 |zero=>rfl
 |succ fuel=>
  simp only [Region.linearise.go]
  change (match (Region.ready .any ops ls)[t%(Region.ready .any ops ls).length]? with
   |some i=>Region.linearise.go .any ops fuel (t/(Region.ready .any ops ls).length) (ls.setIfInBounds i true) [i]
   |none=> [].reverse)= []
  rw [h];rfl
theorem lL {ops:Array Oper} {ls:Array Bool} {fuel t i:Nat} (h:(Region.ready .any ops ls)[t%(Region.ready .any ops ls).length]?=some i):Region.linearise.go .any ops (fuel+1) t ls []=i::Region.linearise.go .any ops fuel (t/(Region.ready .any ops ls).length) (ls.setIfInBounds i true) []:=by
 simp only [Region.linearise.go]
 change (match (Region.ready .any ops ls)[t%(Region.ready .any ops ls).length]? with
  |some i=>Region.linearise.go .any ops fuel (t/(Region.ready .any ops ls).length) (ls.setIfInBounds i true) [i]
  |none=> [].reverse)=_
 rw [h];simp only;rw [linearise_go_acc];rfl
theorem pick {l:List Nat} (h:l≠ []) (t:Nat): ∃i,l[t%l.length]?=some i/\i∈l:=by
 have hp:=List.length_pos_iff.2 h;have hlt:=Nat.mod_lt t hp;exact⟨_,List.getElem?_eq_getElem hlt,List.getElem_mem hlt⟩
theorem zD (h:LastOk l o) (hb: ∀i x,(⟨l⟩:Array Oper)[i]?=some x-> ∀e∈x.after,Region.binds .any e=true->e.on<i): ∀(fuel t:Nat) (ls:Array Bool),ls.size=l.length->Cl ⟨l⟩ ls->iD ⟨l⟩ ls<=fuel->
  Region.linearise.go .any ⟨l++ [o]⟩ (fuel+1) t (ls.push false) []=Region.linearise.go .any ⟨l⟩ fuel t ls []++ [l.length]:=by
 have fin: ∀(fuel t:Nat) (ls:Array Bool),ls.size=l.length->Region.ready .any ⟨l⟩ ls= []->Region.linearise.go .any ⟨l++ [o]⟩ (fuel+1) t (ls.push false) []=Region.linearise.go .any ⟨l⟩ fuel t ls []++ [l.length]:=by
  intro fuel t ls hs hn;have hall:=tL hb hs hn;have h1:=tM h hs hall;rw [tO hn,lL (i:=l.length) (by rw [h1];simp [Nat.mod_one]),tO]
  ·rfl
  ·refine tN (fun i hi=>?_);by_cases e:l.length=i
   ·subst e;exact bR
   ·rw [getD_set_ne true e,dc (by omega)];exact hall i (by omega)
 intro fuel;induction fuel with
 |zero=>
  intro t ls hs hc hu;refine fin 0 t ls hs ?_;rw [List.eq_nil_iff_forall_not_mem];intro i hi;obtain⟨h1,h2⟩:=bX hi;have:=fX h1 h2;omega
 |succ fuel ih=>
  intro t ls hs hc hu;by_cases hn:Region.ready .any ⟨l⟩ ls= []
  ·exact fin _ t ls hs hn
  ·obtain⟨i,h1,h2⟩:=pick hn t;obtain⟨h3,h4⟩:=bX h2;have h3:i<l.length:=h3;have e:=wR h hs hc hn;rw [lL h1,lL (i:=i) (by rw [e];exact h1),e,zB (by omega),List.cons_append];congr 1
   refine ih _ _ (by simp [hs]) (fun j x hx hl e2 he hbe=>?_) (by
    have:=fX (ops:=⟨l⟩) h3 h4;omega)
   unfold LS at hl⊢
   have mono:LS ls e2.on->(ls.setIfInBounds i true).getD e2.on true=true:=fun hh=>by
    by_cases e3:i=e2.on
    ·rw [<-e3];exact bR
    ·rw [getD_set_ne true e3];exact hh
   by_cases e3:i=j
   ·subst e3;obtain⟨_,x',hx',hall⟩:=mem_ready.1 h2;rw [hx]at hx';injection hx' with hx';subst hx';refine mono (jg (hall e2 he hbe))
   ·rw [getD_set_ne true e3]at hl;exact mono (hc j x hx hl e2 he hbe)
theorem M7 {ops:Array Oper} : ∀(fuel t:Nat) (ls:Array Bool),∀i∈Region.linearise.go .any ops fuel t ls [],i<ops.size:=by
 intro fuel;induction fuel with
 |zero=>intro t ls i hi;simp [Region.linearise.go]at hi
 |succ fuel ih=>
  intro t ls i hi;by_cases hn:Region.ready .any ops ls= []
  ·rw [tO hn]at hi;cases hi
  ·obtain⟨j,h1,h2⟩:=pick hn t;rw [lL h1]at hi;rcases List.mem_cons.1 hi with rfl|hi
   ·exact(bX h2).1
   ·exact ih _ _ i hi
theorem lM (h:LastOk l o) {Q:Exit->Act->World->Prop} : ∀(is:List Nat) (a:Act) (w:World),(∀i∈is,i<l.length)->wpOps P ⟨l⟩ Q is a w->wpOps P ⟨l++ [o]⟩ Q is a w
 | [],a,w,_,hw=>hw
 |i::is,a,w,hi,hw=>by
  have hlt:=hi i (by simp);simp only [wpOps]at hw⊢;rw [lK hlt];cases hx:(⟨l⟩:Array Oper)[i]? with
  |none=>rw [hx]at hw;exact lM h is a w (fun j hj=>hi j (by simp [hj])) hw
  |some x=>
   rw [hx]at hw
   have hm:x∈l:=by
    rw [List.getElem?_toArray]at hx;exact List.mem_of_getElem? hx
   have e:Region.wanted x (yielded ⟨l++ [o]⟩ a.tmps)=Region.wanted x (yielded ⟨l⟩ a.tmps):=by
    unfold Region.wanted;cases hg:x.guard with
    |none=>rfl
    |some y=>
     obtain⟨g,b⟩:=y;simp only;unfold yielded;rw [lK (h.guard x hm g b hg)]
   simp only [e]at hw⊢;split
   ·rename_i hc;rw [if_pos hc]at hw;exact hw.imp (Oper.wp_mono (fun a' w'=>lM h is a' w' (fun j hj=>hi j (by simp [hj])))) id
   ·rename_i hc;rw [if_neg hc]at hw;exact lM h is _ w (fun j hj=>hi j (by simp [hj])) hw
end
section
variable {P:Program} {ops:Array Oper} {b:Frame} {k:List Item} {cs:List Frame}
theorem jt (hnd: ∀(i:Nat) (o:Oper),ops[i]?=some o->eI o.op=false) {K:Act->World->Prop} {r:List Nat} : ∀(l:List Nat) (a:Act) (w:World),wpOps P ops (fun e a w=>e=.normal/\K a w) l a w->
  ∃a' w',K a' w'/\Steps P (lone (b.atR a (.inRegion ops (l++r)::k)) cs w) (lone (b.atR a' (.inRegion ops r::k)) cs w')
 | [],a,w,h=>⟨a,w,h.2,.refl _ _⟩
 |i::rest,a,w,h=>by
  simp only [wpOps]at h;rw [List.cons_append];cases ho:ops[i]? with
  |none=>
   simp only [ho]at h;obtain⟨a',w',hq,hs⟩:=jt hnd (r:=r) rest a w h;have hs1:=stepR_op_skip (P:=P) (b:=b) (a:=a) (k:=k) (cs:=cs) (w:=w) (ops:=ops) (i:=i) (rest:=rest++r) (by simp [ho]);simp only [ho,Option.bind_none,Act.put]at hs1;exact⟨a',w',hq,.head hs1 hs⟩
  |some o=>
   simp only [ho]at h;by_cases hw:Region.wanted o (yielded ops a.tmps)=true
   ·simp only [hw,if_true]at h;rcases h with h|⟨_,_,_,e,_⟩
    ·have h2:o.wp P a w (wpOps P ops (fun e a w=>e=.normal/\K a w) rest) (fun e a' w'=> ∃ch,e=.panic ch/\False):=by
      revert h;unfold Oper.wp Oper.upon;split
      ·exact id
      ·exact id
      ·exact id
      ·intro h;refine h.mono (fun e w''=>?_);cases e with
       |returned v=>exact id
       |panicked ch=>intro hx;cases hx.1
       |outgrown=>rintro⟨_,_,e,_⟩;cases e
      ·exact id
      ·intro hx;cases hx.1
      ·exact id
     obtain⟨a1,w1,hk,hs1⟩:=fI (b:=b) (k:=k) (cs:=cs) (rest:=rest++r) ho hw (hnd i o ho) h2;obtain⟨a',w',hq,hs⟩:=jt hnd (r:=r) rest a1 w1 hk;exact⟨a',w',hq,Steps.trans hs1 hs⟩
    ·cases e
   ·simp only [hw,if_false,Bool.false_eq_true]at h;obtain⟨a',w',hq,hs⟩:=jt hnd (r:=r) rest _ w h
    have hs1:=stepR_op_skip (P:=P) (b:=b) (a:=a) (k:=k) (cs:=cs) (w:=w) (ops:=ops) (i:=i) (rest:=rest++r)
     (by simp [ho];simpa using hw)
    simp only [ho,Option.bind_some]at hs1;exact⟨a',w',hq,.head hs1 hs⟩
end
section
variable {P:Program} {E:PEnv}
theorem zE {o:Oper} {a:Act} {w:World} {K:Act->World->Prop} (h:o.wp P a w K (fun _ _ _=>False)):o.wp P a w K (fun e a' w'=> ∃ch,e=.panic ch/\False):=by
 revert h;unfold Oper.wp Oper.upon;split
 ·exact id
 ·exact id
 ·exact id
 ·intro h;refine h.mono (fun e w''=>?_);cases e with
  |returned v=>exact id
  |panicked ch=>exact False.elim
  |outgrown=>rintro⟨_,_,e⟩;exact e.elim
 ·exact id
 ·exact False.elim
 ·exact id
variable {Y:Option YC} {rd:Nat} {fn:Func} {all:Array Oper} {o:Oper} {os:List Oper} {k:List Item} {fr fr1:Fr} {H H1 H':LH} {p p':Option Code} {r:Res} {v:Value}
theorem gG {ι ι1:Ren} {b:Frame} {a a1:Act} {w w1:World} {cs:List Frame} {B:Nat} {X:Option Nat} {m:Nat} (h:Pre P E Y (QO rd) fn k fr H p ι b a w cs B X) {v':Value} (ho:Out P H ι w H1 ι1 w1) (hv:VR H1.D ι1 v v') (hput:bb fn.ntmps fr o.dst v=some fr1) (ha:a1=a.put o.dst v')
  (hs:Steps P (lone (b.atR a (.inRegion all (m::List.range' (m+1) (all.size-(m+1)))::k)) cs w) (lone (b.atR a1 (.inRegion all (List.range' (m+1) (all.size-(m+1)))::k)) cs w1))
  (hos:os=all.toList.drop (m+1)) (hm:m<all.size) (ih:Sound P E (.ops Y rd fn all os k fr1 H1 p r H' p')):Post P E.pl E.tF Y fn p' r H' (b.atR a (.inRegion all (m::List.range' (m+1) (all.size-(m+1)))::k)) b cs ι H w B X:=by
 refine gE h.rel hs ho (ih (m+1) ι1 b a1 w1 cs B X hos hm (h.out ho ?_ ?_ h.items))
 ·rw [ha];exact(h.fr.mono ho.sub ho.same).put hput hv
 ·rw [ha,put_defers];exact h.marks.out (X:=none) ho.x h.rel (by simp)
theorem tP {T:Callee} (h:fD P T o fr H=some (v,H1)):eI o.op=false:=by
 obtain⟨d,op,ty,ps,af,g⟩:=o;cases op<;>first|rfl|(simp [fD,bS]at h)
theorem pI (hT:lz P (LC P E.E)) (hw:aQ all fr o=some true) (hop:fD P (LC P E.E) o fr H=some (v,H1)) (hput:bb fn.ntmps fr o.dst v=some fr1) (ih:Sound P E (.ops Y rd fn all os k fr1 H1 p r H' p')):Sound P E (.ops Y rd fn all (o::os) k fr H p r H' p'):=by
 intro m ι b a w cs B X hos hm h;obtain⟨hlt,hget,hos',hr⟩:=drop_cons hos;rw [hr]
 obtain⟨a1,w1,⟨ι1,v',ho,hv,ha⟩,hs⟩:=fI (P:=P) (b:=b) (k:=k) (cs:=cs) (rest:=List.range' (m+1) (all.size-(m+1))) (K:=fun a1 w1=> ∃ι1 v',Out P H ι w H1 ι1 w1/\VR H1.D ι1 v v'/\a1=a.put o.dst v') hget (cT h.fr hw) (tP hop)
  (zE (pr hT h.rel h.fr hop _ _ (fun ι' v' w' ho hv=>⟨ι',v',ho,hv,rfl⟩)))
 exact gG h ho hv hput ha hs hos' hlt ih
theorem rM (hw:aQ all fr o=some false) (hput:bb fn.ntmps fr o.dst undef=some fr1) (ih:Sound P E (.ops Y rd fn all os k fr1 H p r H' p')):Sound P E (.ops Y rd fn all (o::os) k fr H p r H' p'):=by
 intro m ι b a w cs B X hos hm h;obtain⟨hlt,hget,hos',hr⟩:=drop_cons hos;rw [hr]
 have hs:=stepR_op_skip (P:=P) (b:=b) (a:=a) (k:=k) (cs:=cs) (w:=w) (ops:=all) (i:=m) (rest:=List.range' (m+1) (all.size-(m+1))) (by
  rw [hget];simp [cT h.fr hw])
 rw [hget]at hs;exact gG h (Out.refl h.rel) (.flat _ rfl) hput rfl (.one hs) hos' hlt ih
theorem tQ {g:FuncId} {first caps:Array Operand} (hw:aQ all fr o=some true) (hop:o.op=.makeFunc (.func g) first caps) (hput:bb fn.ntmps fr o.dst (.func (.func g) (first.map (ev fr)) (caps.map (ev fr)))=some fr1) (ih:Sound P E (.ops Y rd fn all os k fr1 H p r H' p')):Sound P E (.ops Y rd fn all (o::os) k fr H p r H' p'):=by
 intro m ι b a w cs B X hos hm h;obtain⟨hlt,hget,hos',hr⟩:=drop_cons hos;rw [hr]
 have hrun:(execOp a.eval o).run P w=.ok (.value (.func (.func g) (first.map a.eval) (caps.map a.eval))) w:=by
  unfold execOp;rw [hop];rfl
 obtain⟨a1,w1,⟨ha,hw1⟩,hs⟩:=fI (P:=P) (b:=b) (k:=k) (cs:=cs) (rest:=List.range' (m+1) (all.size-(m+1))) (K:=fun a1 w1=>a1=a.put o.dst (.func (.func g) (first.map a.eval) (caps.map a.eval))/\w1=w) hget (cT h.fr hw) (by rw [hop];rfl)
  (by unfold Oper.wp;rw [hrun];exact⟨rfl,rfl⟩)
 subst hw1;refine gG h (Out.refl h.rel) ?_ hput ha hs hos' hlt ih;refine .func _ _ _ _ _ (by simp) (by simp) (fun i x y hx hy=>?_) (fun i x y hx hy=>?_)
 all_goals
  simp only [Array.getElem?_map,Option.map_eq_some_iff]at hx hy;obtain⟨x',hx',rfl⟩:=hx;obtain⟨y',hy',rfl⟩:=hy;rw [hx']at hy';injection hy' with hy';subst hy';exact h.fr.ev x'
theorem wS {ι:Ren} {w:World} (hrel:Rel P H ι w) {t:TypeId} {v x':Value} (hv:VR H.D ι v x') (h:DJ P t v H=some H1):
  ∃w1,(∀(ty:TypeId) (cs:Array Bool),(builtin .clear #[t] ty cs #[x']).run P w=.ok (.value (.tuple #[])) w1)/\Out P H ι w H1 ι w1:=by
 unfold DJ at h;split at h
 ·rename_i e ad n c hu;split at h
  ·rename_i hn;simp only [Option.some.injEq]at h;subst h hn;obtain⟨b2,c2,rfl,_⟩:=ee hv;exact⟨w,fun ty cs=>by cases b2<;>simp [builtin,Builtin.clear_,Sem.run_bind,run_underlying hu],Out.refl hrel⟩
  ·rename_i hn;split at h
   ·rename_i l off z hz;split at h
    ·rename_i b hb;split at h
     ·rename_i hc;obtain⟨hrw,hall,hle⟩:=hc;simp only [Option.some.injEq]at h;subst h;obtain⟨n,rfl⟩: ∃m,n=m+1:=⟨n-1,by omega⟩
      have hcell: ∀x∈(Builtin.zeroCells z.cells (n+1)).toList,aC x=true/\ao x=true:=fun x hx=>by
       have:=List.all_eq_true.1 hall x hx;simpa using this
      have hvr: ∀(i:Nat) x y,(Builtin.zeroCells z.cells (n+1)).toList[i]?=some x->(Builtin.zeroCells z.cells (n+1)).toList[i]?=some y->VR H.D ι x y:=fun i x y hx hy=>by
       rw [hx]at hy;injection hy with hy;subst hy;exact .flat _ (hcell _ (List.mem_of_getElem? hx)).2
      obtain⟨w1,hr,ho⟩:=nY (o:=off) hrel hb hrw hle rfl hvr (fun u hu'=>mf (VR.flat (n:=H.D) (ι:=ι) u (hcell u hu').2) (hcell u hu').1);refine⟨w1,fun ty cs=>?_,ho⟩
      have hX: ∃c2,x'=.slice (some ⟨(ι l).blk,(ι l).off+off,none⟩) (n+1) c2:=by
       cases hv with
       |flat _ hf=>simp [ao,az,aA]at hf
       |slice _ _ _ _ _ _=>exact⟨_,rfl⟩
      obtain⟨c2,rfl⟩:=hX;simp [builtin,Builtin.clear_,Sem.run_bind,run_underlying hu,eP hz,hr]
     ·cases h
    ·cases h
   ·cases h
 ·cases h
theorem pJ {x:Operand} {t:TypeId} (hw:aQ all fr o=some true) (hop:o.op=.call ⟨.builtin .clear,#[x],#[t]⟩) (hc:DJ P t (ev fr x) H=some H1) (hput:bb fn.ntmps fr o.dst (.tuple #[])=some fr1) (ih:Sound P E (.ops Y rd fn all os k fr1 H1 p r H' p')):Sound P E (.ops Y rd fn all (o::os) k fr H p r H' p'):=by
 intro m ι b a w cs B X hos hm h;obtain⟨hlt,hget,hos',hr⟩:=drop_cons hos;rw [hr];obtain⟨w1,hrun,hout⟩:=wS (P:=P) h.rel (h.fr.ev x) hc
 have hrun2:(execOp a.eval o).run P w=.ok (.value (.tuple #[])) w1:=by
  unfold execOp;simp only [hop,resolve,Sem.run_bind,Sem.run_pure,Result.andThen_ok,invoke];rw [show(#[x]:Array Operand).map a.eval=#[a.eval x] by simp];exact hrun _ _
 obtain⟨a1,w2,⟨ha,hw2⟩,hs⟩:=fI (P:=P) (b:=b) (k:=k) (cs:=cs) (rest:=List.range' (m+1) (all.size-(m+1))) (K:=fun a1 w2=>a1=a.put o.dst (.tuple #[])/\w2=w1) hget (cT h.fr hw) (by rw [hop];rfl)
  (by unfold Oper.wp;rw [hrun2];exact⟨rfl,rfl⟩)
 subst hw2;exact gG h hout (.flat _ rfl) hput ha hs hos' hlt ih
theorem rN {x:Operand} {args:Array Operand} {ts:Array TypeId} {g:FuncId} {first caps:Array Value} (hw:aQ all fr o=some true) (hop:o.op=.call ⟨.value x,args,ts⟩) (hx:ev fr x=.func (.func g) first caps)
  (hc:Sound P E (.call g (first.toList++args.toList.map (ev fr)++caps.toList) H (.ret v) H1)) (hput:bb fn.ntmps fr o.dst v=some fr1) (ih:Sound P E (.ops Y rd fn all os k fr1 H1 p r H' p')):Sound P E (.ops Y rd fn all (o::os) k fr H p r H' p'):=by
 intro m ι b a w cs B X hos hm h;obtain⟨hlt,hget,hos',hr⟩:=drop_cons hos;rw [hr];rcases mI (P:=P) (b:=b) (k:=k) (cs:=cs) (rest:=List.range' (m+1) (all.size-(m+1))) hget (cT h.fr hw) (by rw [hop];rfl) (vw h.rel h.fr hop hx hc.1 hc.2)with⟨a1,w1,⟨ι1,u,v',e,ha,ho,hv⟩,hs⟩|⟨ch,w1,⟨_,_,_,e,_⟩,_⟩
 ·injection e with e;subst e;exact gG h ho hv hput ha hs hos' hlt ih
 ·cases e
theorem pK {x:Operand} {args:Array Operand} {ts:Array TypeId} {g:FuncId} {first caps:Array Value} (hw:aQ all fr o=some true) (hop:o.op=.call ⟨.value x,args,ts⟩) (hx:ev fr x=.func (.func g) first caps)
  (hc:Sound P E (.call g (first.toList++args.toList.map (ev fr)++caps.toList) H (.pan v) H1)):Sound P E (.ops Y rd fn all (o::os) k fr H p (.pan v) H1 p):=by
 intro m ι b a w cs B X hos hm h;obtain⟨hlt,hget,hos',hr⟩:=drop_cons hos;rw [hr];rcases mI (P:=P) (b:=b) (k:=k) (cs:=cs) (rest:=List.range' (m+1) (all.size-(m+1))) hget (cT h.fr hw) (by rw [hop];rfl) (vw h.rel h.fr hop hx hc.1 hc.2)with⟨_,_,⟨_,_,_,e,_⟩,_⟩|⟨ch,w1,⟨ι1,u,v',e,rfl,ho,hv⟩,hs⟩
 ·cases e
 ·injection e with e;subst e;exact⟨ι1,w1,ho.x,h.yat.out h.rel ho.x,a,_,v',hs,h.marks.out (X:=none) ho.x h.rel (by simp),hv⟩
theorem tR {id:Nat} {ops:Array Oper} (hT:lz P (LC P E.E)) (hm:P.follows .mixedOrders=true) (hl:dO P E.pl (LC P E.E) fn.ntmps id ops fr H=some (fr1,H1)) (ih:Sound P E (.run Y rd fn k fr1 H1 p r H' p')):Sound P E (.run Y rd fn (.code (.region id ops true)::k) fr H p r H' p'):=by
 intro ι b a w cs B X h;obtain⟨h1,h2⟩:=bZ h.items;simp only [bK,aP,Bool.and_eq_true]at h1;obtain⟨h1,h3⟩:=h1
 have hnd: ∀(i:Nat) (o:Oper),ops[i]?=some o->eI o.op=false:=fun i o ho=>by
  have:=List.all_eq_true.1 h3 o (Array.mem_toList_iff.2 (Array.mem_of_getElem? ho));simpa using this
 have key:wpAny P .any ops (fun e a1 w1=>e=.normal/\ ∃ι1,Out P H ι w H1 ι1 w1/\bV H1.D ι1 fn.ntmps fr1 a1.tmps/\a1.defers=a.defers) ops.size (Array.replicate ops.size false) a { w with drawn:=w.drawn+1 } :=by
  unfold dO at hl;unfold l_ at h1;cases hc:E.pl.ch fn.ntmps id ops.size with
  |none=>rw [hc]at hl h1;exact vm hT h1 hl h.rel h.fr (fun ι' a' w' ho hf hd=>⟨rfl,ι',ho,hf,hd⟩)
  |some prs=>rw [hc]at hl h1;rw [Bool.and_eq_true]at h1;letI:Cvt:=⟨E.pl.cv⟩;exact mD hT h1.1 h1.2 hl h.rel h.fr (fun ι' a' w' ho hf hd=>⟨rfl,ι',ho,hf,hd⟩)
 have hops:=wpAny_sound ops.size (w.tape w.drawn (.order b.fn id)) _ a _ key;have hst:=stepR_region_draw (P:=P) (b:=b) (a:=a) (k:=k) (cs:=cs) (w:=w) (ops:=ops) (id:=id);simp only [Region.schedule,hm,Bool.true_or,if_true]at hst;obtain⟨a1,w1,⟨ι1,ho,hf,hd⟩,hs⟩:=lI (b:=b) (k:=k) (cs:=cs) hnd _ a _ hops;refine gE h.rel (.head hst hs) ho (ih ι1 b a1 w1 cs B X (h.out ho hf ?_ h2));rw [hd];exact h.marks.out (X:=none) ho.x h.rel (by simp)
theorem rO {id:Nat} {l:List Oper} {o:Oper} {prs:List (Nat×Nat)} (hT:lz P (LC P E.E)) (hm:P.follows .mixedOrders=true) (hB:@kb ⟨E.pl.cv⟩ ⟨l⟩ prs=true) (hl:kZ l o=true)
  (hc:@aY ⟨E.pl.cv⟩ P (LC P E.E) fn.ntmps ⟨l⟩ prs 0 (fun _=>(fr,H)) l fr H=some (fr1,H1)) (ih:Sound P E (.ops Y 3 fn ⟨l++ [o]⟩ [o] k fr1 H1 p r H' p')):Sound P E (.run Y 3 fn (.code (.region id ⟨l++ [o]⟩ true)::k) fr H p r H' p'):=by
 intro ι b a w cs B X h;obtain⟨h1,h2⟩:=bZ h.items;simp only [bK,aP,Bool.and_eq_true]at h1;obtain⟨h1,h3⟩:=h1;have hlk:=tJ hl
 have hnd: ∀(i:Nat) (x:Oper),(⟨l++ [o]⟩:Array Oper)[i]?=some x->eI x.op=false:=fun i x hx=>by
  have:=List.all_eq_true.1 h3 x (Array.mem_toList_iff.2 (Array.mem_of_getElem? hx));simpa using this
 letI:Cvt:=⟨E.pl.cv⟩
 have hback: ∀i x,(⟨l⟩:Array Oper)[i]?=some x-> ∀e∈x.after,Region.binds .any e=true->e.on<i:=fun i x hx e he hb=>by
  unfold kb at hB;simp only [Bool.and_eq_true]at hB;have hi:=(Array.getElem?_eq_some_iff.1 hx).1;have:=List.all_eq_true.1 hB.1.1.1 i (List.mem_range.2 hi);simp only [hx]at this;have:=List.all_eq_true.1 this e (Array.mem_toList_iff.2 he);rw [hb]at this;simpa using this
 have key:wpAny P .any ⟨l⟩ (fun e a1 w1=>e=.normal/\ ∃ι1,Out P H ι w H1 ι1 w1/\bV H1.D ι1 fn.ntmps fr1 a1.tmps/\a1.defers=a.defers) (⟨l⟩:Array Oper).size (Array.replicate (⟨l⟩:Array Oper).size false) a { w with drawn:=w.drawn+1 } :=
  gX hT hB hc h.rel h.fr (fun ι' a' w' ho hf hd=>⟨rfl,ι',ho,hf,hd⟩)
 have hops:=wpAny_sound (⟨l⟩:Array Oper).size (w.tape w.drawn (.order b.fn id)) _ a _ key;have hops2:=lM hlk _ _ _ (fun i hi=>M7 _ _ _ i hi) hops;have hst:=stepR_region_draw (P:=P) (b:=b) (a:=a) (k:=k) (cs:=cs) (w:=w) (ops:=⟨l++ [o]⟩) (id:=id);simp only [Region.schedule,hm,Bool.true_or,if_true]at hst;obtain⟨a1,w1,⟨ι1,ho,hf,hd⟩,hs⟩:=jt (b:=b) (k:=k) (cs:=cs) (r:= [l.length]) hnd _ a _ hops2
 rw [show Region.linearise .any ⟨l++ [o]⟩ (w.tape w.drawn (.order b.fn id))=Region.linearise.go .any ⟨l⟩ l.length (w.tape w.drawn (.order b.fn id)) (Array.replicate l.length false) []++ [l.length] by
  unfold Region.linearise;rw [show(⟨l++ [o]⟩:Array Oper).size=l.length+1 by simp,Array.replicate_succ];refine zD hlk hback _ _ _ (by simp) (fun j x hx hlj=>?_) ?_
  ·unfold LS at hlj;have hj:=(Array.getElem?_eq_some_iff.1 hx).1;have hj:j<l.length:=hj;simp [hj]at hlj
  ·unfold iD;refine Nat.le_trans List.countP_le_length ?_;simp]at hst
 refine gE h.rel (.head hst hs) ho ?_;have:=ih l.length ι1 b a1 w1 cs B X (by simp) (by simp) (h.out ho hf (by rw [hd];exact h.marks.out (X:=none) ho.x h.rel (by simp)) h2);rw [show(⟨l++ [o]⟩:Array Oper).size-l.length=1 by simp]at this;exact this
theorem rP {l:Nat} {f:FuncId} {tmps:Array Value} {assign body:Code} :Frame.round l f tmps assign body .normal=({ (default:Frame)with fn:=f,kind:=.normal,roundOf:=some l } :Frame).atR { tmps:=tmps,defers:= [] } [.code assign,.beginRound,.code body]:=by
 simp [Frame.round,Frame.atR]
theorem pL {yc:YC} {x:Operand} {args:Array Operand} {ts:Array TypeId} {j:Option Code} (hw:aQ all fr o=some true) (hop:o.op=.call ⟨.value x,args,ts⟩) (hx:ev fr x=tok yc.l) (hsz:args.size=yc.params.length) (hN: ∀d∈yc.params,d<yc.fn.ntmps)
  (ihr:Sound P E (.run none 1 yc.fn [.code yc.assign,.beginRound,.code yc.body] (mH yc.fr (yc.params.zip (args.toList.map (ev fr)))) H none (.jump j) H1 none)) (hput:bb fn.ntmps fr o.dst (.bool j.isNone)=some fr1)
  (ih:Sound P E (.ops (some yc) 0 fn all os k fr1 H1 j r H' p')):Sound P E (.ops (some yc) 0 fn all (o::os) k fr H none r H' p'):=by
 intro m ι b a w cs B X hos hm h;obtain⟨hlt,hget,hos',hr⟩:=drop_cons hos;rw [hr];have hxv:=h.fr.ev x;rw [hx]at hxv;obtain⟨ex,hD⟩:=Ix hxv;obtain⟨_,⟨okj,okA,okB⟩,rc,y1,y2,y3,y4,y5,y6,y7,y8⟩:=h.yat;have hX:=h.yx yc rfl;have hst0:rc.state=.ready:=by simpa using y8
 have hlen:(args.map a.eval).size=rc.params.size:=by
  rw [Array.size_map,hsz,<-y2];simp
 have hrun:(execOp a.eval o).run P w=.ok (.round (ι yc.l).blk rc.fn ((rc.params.zip (args.map a.eval)).foldl (fun tmps (t,v)=>tmps.setIfInBounds t v) rc.tmps) rc.assign rc.body) w:=by
  unfold execOp;simp only [hop,resolve,ex,Deferred.ofValue,Sem.run_bind,Sem.run_pure,Result.andThen_ok,invoke];rw [show(#[]++args.map a.eval:Array Value)=args.map a.eval by simp];exact run_yield y1 hlen
 let tm:Array Value:=(rc.params.zip (args.map a.eval)).foldl (fun tmps (t,v)=>tmps.setIfInBounds t v) rc.tmps
 let c0:Frame:=b.atR a (.inRegion all (m::List.range' (m+1) (all.size-(m+1)))::k)
 let b':Frame:= { (default:Frame)with fn:=rc.fn,kind:=.normal,roundOf:=some (ι yc.l).blk }
 have hg:=stepGR_op (P:=P) (b:=b) (k:=k) (cs:=cs) (w:=w) (rest:=List.range' (m+1) (all.size-(m+1))) hget (cT h.fr hw);rw [Oper.semAt_eq _ _ _ (oA (by rw [hop];rfl))]at hg
 have hs0:step P (lone c0 cs w)=.next (lone (b'.atR { tmps:=tm,defers:= [] } [.code rc.assign,.beginRound,.code rc.body]) (c0::cs) w):=by
  rw [<-rP];exact step_lone_go (by rw [hg];simp [stepG.apply,hrun,tm,c0])
 have hnd: ¬(ι yc.l).blk<H.ng:=(h.xok _ hX).2;rw [y3,y4]at hs0
 have htm:bV H.D ι yc.fn.ntmps (mH yc.fr (yc.params.zip (args.toList.map (ev fr)))) tm:=by
  obtain⟨h2,h3⟩:=fG h.fr args;have:=rJ yc.params (args.toList.map (ev fr)) (args.map a.eval).toList yc.fr rc.tmps y6 hN (by first|(simp;done)|simpa using h2) (fun i x y hx hy=>h3 i x y hx (by simpa using hy))
  have e:tm=(yc.params.zip (args.map a.eval).toList).foldl (fun t (d,v)=>t.setIfInBounds d v) rc.tmps:=by
   show(rc.params.zip (args.map a.eval)).foldl _ _=_;rw [<-Array.foldl_toList,Array.toList_zip,y2]
  rw [e];exact this
 obtain⟨ι1,w1,ho,_,⟨_,hj⟩,lr,c,cs0,e1,e2,hs1,hrec⟩:=ihr ι b' { tmps:=tm,defers:= [] } w (c0::cs) w.heap.size (some (ι yc.l).blk)
  ⟨cA okA (cA rfl (cA okB (by simp))),h.rel,htm,y5,rfl,(fun _ h=>by cases h),(fun q hq=>by injection hq with hq;subst hq;exact⟨⟨rc,y1⟩,hnd⟩),(fun h=>by cases h),fun _=>⟨rfl,_,c0,cs,rc,rfl,rfl,rfl,rfl,y1,fun _=>hst0⟩,trivial,Nat.le_refl _,rK h.rel⟩
 injection e1 with e1;injection e2 with e2 e3;subst e1 e2 e3
 have hfin:c0.finish (.bool j.isNone)=b.atR (a.put o.dst (.bool j.isNone)) (.inRegion all (List.range' (m+1) (all.size-(m+1)))::k):=by
  show(b.atR a (.inRegion all (m::List.range' (m+1) (all.size-(m+1)))::k)).finish _=_;rw [Frame.finish_atR,hget];rfl
 rw [hfin]at hs1;have hrec1:=hrec rc y1;have hsame:ι1 yc.l=ι yc.l:=ho.same _ hD;have hoX:OutX P X H ι w H1 ι1 w1:=by rw [hX];exact ho
 refine kr (.head hs0 hs1) hoX (fun e=>by cases e) (ih (m+1) ι1 b _ w1 cs B X hos' hlt ⟨h.items,ho.rel,(h.fr.mono ho.sub ho.same).put hput (.flat _ rfl),h.fn,⟨ho.sub _ hD,⟨hj,okA,okB⟩,{ rc with state:=if j.isNone then .ready else .done,pending:=j },by rw [hsame];exact hrec1,y2,y3,y4,y5,y6.mono ho.sub ho.same,rfl,rfl⟩,fun yc' hy=>?_,fun q hq=>?_,h.rd0,fun h=>absurd rfl h,?_,Nat.le_trans h.hB ho.chg.size,by rw [ho.ng];exact h.hng⟩)
 ·injection hy with hy;subst hy;rw [hsame];exact hX
 ·rw [hX]at hq;injection hq with hq;subst hq;exact⟨⟨_,hrec1⟩,by rw [ho.ng];exact hnd⟩
 ·rw [put_defers];exact h.marks.out hoX h.rel h.xl
theorem rQ {x:Operand} {params:Array Tmp} {assign body:Code} {g:FuncId} {caps:Array Value} {gfn:Func} {gc:Code} {p1:Option Code} (hx:ev fr x=.func (.func g) #[] caps) (hf:rF P E g gfn gc (tok H.n::caps.toList))
  (ihg:Sound P E (.run (some ⟨H.n,fn,fr,params.toList,assign,body⟩) 0 gfn [.code gc] (enter (tok H.n::caps.toList)) H.dead none (.ret v) H1 p1)) (ih:Sound P E (.run Y rd fn ((p1.map Item.code).toList++k) fr H1 p r H' p')):
  Sound P E (.run Y rd fn (.code (.rangeFunc x params assign body)::k) fr H p r H' p'):=by
 intro ι b a w cs B X h;obtain⟨hx1,hx2⟩:=bZ h.items;have hok:aP E.pl fn.ntmps assign=true/\aP E.pl fn.ntmps body=true:=by simpa [bK,aP]using hx1
 obtain⟨l,mark,w1,dd,he,hl1,hc1,hl0,hmk⟩:=tI h params assign body;obtain⟨g1,g2,g3,g4,g5⟩:=hf;have hE:cU P g:=⟨gfn,g1,by rw [g2];rfl,g4⟩
 have hxv:=h.fr.ev x;rw [hx]at hxv;obtain⟨f',c',e,k1,k2,_,k4⟩:=pH hxv;have ef:f'=#[]:=Array.eq_empty_of_size_eq_zero k1.symm;subst ef
 have hres:(resolve a.eval (rangeCall x l) 0).run P w1=.ok { target:=.fn (.func g) c',args:=#[.func (.yield l) #[] #[]] } w1:=by
  simp only [resolve,rangeCall,e,Deferred.ofValue,Sem.run_pure];simp [Act.eval]
 obtain⟨ar,har⟩: ∃z:Array Value,z=#[.func (.yield l) #[] #[]]++c':=⟨_,rfl⟩
 have hinv:(invoke (.fn (.func g) c') #[.func (.yield l) #[] #[]]).run P w1=.ok (.enter g ar) w1:=by
  simp only [invoke];rw [har];exact gW hE _
 have hstep:=stepR_rangeFunc (P:=P) (k:=k) (cs:=cs) he hres hinv
 let c0:Frame:=b.atR { a with defers:=mark++a.defers } (.inRangeFunc l::k)
 let b1:Frame:= { (default:Frame)with fn:=g,kind:=.normal }
 obtain⟨a1,ha1⟩: ∃z:Act,z= { tmps:=ar++Array.replicate (gfn.ntmps-ar.size) undef,defers:= [] } :=⟨_,rfl⟩
 have henter:Frame.enter P g ar .normal=b1.atR a1 [.code gc]:=by rw [ha1];simp [Frame.enter,Frame.atR,g1,g2,b1];rfl
 rw [henter]at hstep;obtain⟨ι1,hι1⟩: ∃z:Ren,z=ι.add H.n ⟨l,0,0⟩:=⟨_,rfl⟩
 have hrel1:Rel P H.dead ι1 w1:=by rw [hι1];exact zx h.rel hc1
 have hsub1: ∀l,H.D l->H.dead.D l:=fun l hl=>⟨Nat.lt_succ_of_lt hl.1,hl.2⟩
 have hsame1: ∀l,H.D l->ι1 l=ι l:=fun q hq=>by rw [hι1];unfold Ren.add;rw [if_neg (Nat.ne_of_lt hq.1)]
 have hDn:H.dead.D H.n:=⟨Nat.lt_succ_self _,h.rel.top⟩
 have hin:(ι1 H.n).blk=l:=by rw [hι1];unfold Ren.add;rw [if_pos rfl]
 have hargs:bV H.dead.D ι1 gfn.ntmps (enter (tok H.n::caps.toList)) a1.tmps:=by
  rw [ha1];refine kq (args':=ar) (by rw [har];simp;omega) (fun i x y hx hy=>?_) g3;rw [har]at hy;cases i with
  |zero=>
   simp at hx hy;subst hx
   have:y=.func (.yield l) #[] #[]:=by
    have h0:(#[.func (.yield l) #[] #[]]++c':Array Value)[0]?=some (.func (.yield l) #[] #[]):=by rw [Array.getElem?_append];simp
    rw [h0]at hy;injection hy with hy;exact hy.symm
   subst this;have hh:=VR.yld (n:=H.dead.D) (ι:=ι1) H.n hDn
   rwa [hin]at hh
  |succ i=>
   have hx':caps[i]?=some x:=by simpa using hx
   have hy':c'[i]?=some y:=by
    rw [Array.getElem?_append]at hy;simpa using hy
   exact(k4 i x y hx' hy').mono hsub1 hsame1
 have hltl:l<w1.heap.size:=(Array.getElem?_eq_some_iff.1 hl1).1;have hngw:=rK h.rel
 obtain⟨ι2,w2,ho2,hy2,a',t',fr',s1,mk1,fr1,res1⟩:=ihg ι1 b1 a1 w1 (c0::cs) w1.heap.size (some l)
  ⟨cA g5 (by simp),hrel1,hargs,g1,⟨hDn,⟨(fun c h=>by cases h),hok.1,hok.2⟩,_,by rw [hin];exact hl1,rfl,rfl,rfl,h.fn,h.fr.mono hsub1 hsame1,rfl,rfl⟩,(fun yc hy=>by injection hy with hy;subst hy;rw [hin]),(fun q hq=>by injection hq with hq;subst hq;exact⟨⟨_,hl1⟩,by show¬l<H.ng;omega⟩),fun _=>rfl,(fun h=>absurd rfl h),(by rw [ha1];trivial),Nat.le_refl _,by have:H.dead.ng=H.ng:=rfl;have:=hc1.size;omega⟩
 obtain⟨w3,s2,c3⟩:=gD (P:=P) (cs:=c0::cs) a'.defers { b1.atR a' t' with mode:=.returning } w2 (by simp) rfl mk1;have hng2:H1.ng=H.ng:=ho2.ng
 have hrel3:Rel P H1 ι2 w3:=g_ ho2.rel c3 (fun q hq=>by
  refine⟨fun hi=>?_,by rw [hng2];have:=hc1.size;have:=hq.1;omega⟩;obtain⟨arr,t,f,hw⟩:=dS ho2.rel hi;rw [hq.2]at hw;cases hw)
 obtain⟨v',hr3,_⟩:=iG hrel3 fr1 res1;have s3:step P (lone { b1.atR { a' with defers:= [] } t' with mode:=.returning } (c0::cs) w3)=.next (lone (c0.finish v') cs w3):=step_leave_returned ⟨rfl,rfl,rfl,gfn,g1,hr3⟩;have efin:c0.finish v'=b.atR { a with defers:=mark++a.defers } (.endRangeFunc l::k):=finish_atR_inRangeFunc l v';rw [efin]at s3;obtain⟨hD2,⟨okj,_,_⟩,rc,y1,_,_,_,_,_,y7,y8⟩:=hy2;have hi2:(ι2 H.n).blk=l:=by rw [ho2.same _ hDn];exact hin
 simp only [hi2]at y1
 have hl3:w3.heap[l]?=some (.loop rc):=by
  rw [c3.block l (Array.getElem?_eq_some_iff.1 y1).1 (fun hq=>by have:=hq.2;rw [y1]at this;cases this)];exact y1
 have hbusy:rc.state≠.busy:=by rw [y8];split<;>simp
 have s4:=stepR_endRangeFunc (P:=P) (b:=b) (a:= { a with defers:=mark++a.defers }) (k:=k) (cs:=cs) (run_endLoop (P:=P) hl3 hbusy);have y7':rc.pending=p1:=y7;subst y7'
 have hi3: ¬lE H1 ι2 l:=fun hi=>by
  obtain⟨arr,t,f,hw⟩:=dS hrel3 hi;rw [hl3]at hw;cases hw
 have hrel4:Rel P H1 ι2 (w3.putObj l (.loop { rc with state:=.exhausted })):=g_ hrel3 eT (fun q hq=>by subst hq;exact⟨hi3,by rw [hng2];omega⟩);obtain⟨w4,hw4⟩: ∃z,z=w3.putObj l (.loop { rc with state:=.exhausted }):=⟨_,rfl⟩
 rw [<-hw4]at hrel4 s4;have c4:Change (fun k=>k=l) w3 w4:=by rw [hw4];exact eT
 have hout:Out P H ι w H1 ι2 w4:=by
  refine⟨hrel4,Nat.le_trans (Nat.le_succ _) ho2.n,fun q hq=>ho2.sub _ (hsub1 q hq),fun q hq=>(ho2.same _ (hsub1 q hq)).trans (hsame1 q hq),?_,fun q hq=>?_,fun q hq=>?_,hng2⟩
  ·refine Change.trans (T:=fun k=>k=l) (Change.trans (Change.trans (hc1.mono (fun _ _ h=>h.elim)) ho2.chg (fun q hq=>?_)) c3 (fun q hq=>.inr (Nat.le_trans hc1.size hq.1))) c4 (fun q hq=>by subst hq;exact .inr hl0);rcases hq with hq|hq
   ·exact .inl (vx h.rel (by rw [hι1]at hq;exact hq))
   ·injection hq with hq;subst hq;exact .inr hl0
  ·rcases ho2.rw q hq with h1|h1
   ·exact .inl (vx h.rel (by rw [hι1]at h1;exact h1))
   ·exact .inr (Nat.le_trans hc1.size h1)
  ·rcases ho2.img q hq with h1|h1
   ·exact .inl (zy h.rel (by rw [hι1]at h1;exact h1))
   ·exact .inr (Nat.le_trans hc1.size h1)
 refine gE h.rel (.head hstep (Steps.trans s1 (Steps.trans s2 (.head s3 (.one s4))))) hout (ih ι2 b { a with defers:=mark++a.defers } w4 cs B X (h.out hout (h.fr.mono hout.sub hout.same) ?_ (fun z hz=>?_)))
 ·have mk1':Marks B w1 (mark++a.defers):=hmk;refine mk1'.keep (fun q hq hqw _=>?_);have q1:q≠l:=fun e=>by subst e;rw [hl1]at hqw;cases hqw
  have q2:w2.heap[q]?=some (.deferred (some [])):=ho2.keep hrel1 hqw gw (fun e=>by injection e with e;exact q1 e.symm);rw [hw4,World.putObj_heap_other q1,c3.block q (Array.getElem?_eq_some_iff.1 q2).1 (fun hh=>?_)]
  ·exact q2
  ·have:=(Array.getElem?_eq_some_iff.1 hqw).1;have:=hh.1;omega
 ·rcases List.mem_append.1 hz with hz|hz
  ·cases hpd:rc.pending with
   |none=>rw [hpd]at hz;cases hz
   |some c=>rw [hpd]at hz;simp at hz;subst hz;exact okj c hpd _ _
  ·exact hx2 z hz
theorem sound (hT:lz P (LC P E.E)) (hm:P.follows .mixedOrders=true) (hpx: ∀f s,E.px f=some s-> ∀args H r H',s args H r H'->cU P f/\lJ P E.tF f args H r H') (hcat: ∀f,E.cat=some f->zw P E.tF f) {j:J} (h:R P E j):Sound P E j:=by
 induction h with
 |@lc f args H v H' h2 h1=>
  have h3:=(hT _ _ _ _ _ h1).call h2;exact⟨h2,fun ι w args' hrel hl ha=>(h3 ι w args' hrel hl ha).mono (fun e w' ⟨ι',v',he,ho,hv⟩=>⟨ι',⟨v',he,hv⟩,ho⟩)⟩
 |px h1 h2=>exact hpx _ _ h1 _ _ _ _ h2
 |body h1 _ ih=>exact mJ h1 ih
 |body3 h1 _ ih=>exact mJ h1 ih
 |trunc _ h1 h2 ih=>exact rL ih h1 h2
 |cat h1 _ ih=>exact oB (hcat _ h1) ih _ (.inl ⟨⟨_,rfl⟩,rfl⟩)
 |catp h1 _ ih=>exact oB (hcat _ h1) ih _ (.inr ⟨_,_,rfl,rfl⟩)
 |nil0 h1=>
  intro ι b a w cs B X h;exact⟨ι,w,OutX.refl h.rel,h.yat,a,[],_,.one (stepR_end (h.rd0 rfl)),h.marks,h.fr,h1⟩
 |ret0 h1=>
  intro ι b a w cs B X h;exact⟨ι,w,OutX.refl h.rel,h.yat,a,_,_,.one (stepR_ret (h.rd0 rfl)),h.marks,h.fr,h1⟩
 |nil3 h1=>
  intro ι b a w cs B X h;exact⟨ι,w,OutX.refl h.rel,h.yat,a,[],_,.one (stepR_end (h.rd0 rfl)),h.marks,h.fr,h1⟩
 |ret3 h1=>
  intro ι b a w cs B X h;exact⟨ι,w,OutX.refl h.rel,h.yat,a,_,_,.one (stepR_ret (h.rd0 rfl)),h.marks,h.fr,h1⟩
 |nil1=>exact gF (fun c h=>by cases h) (fun b a w w' c cs lr v h1 h2 h3=>stepR_round_end h1 h2 h3)
 |ret1=>exact gF (fun c h L N=>by injection h with h;subst h;rfl) (fun b a w w' c cs lr v h1 h2 h3=>stepR_round_ret h1 h2 h3)
 |exit1 hx=>exact gF (fun c h L N=>by injection h with h;subst h;rfl) (fun b a w w' c cs lr v h1 h2 h3=>stepR_round_exit h1 h2 hx h3)
 |beg _ ih=>exact wQ ih
 |skip _ ih=>intro ι b a w cs B X h;exact bY h.rel stepR_skip (ih ι b a w cs B X (h.same (bZ h.items).2))
 |label _ ih=>intro ι b a w cs B X h;exact bY h.rel stepR_label (ih ι b a w cs B X (h.same (bZ h.items).2))
 |inBlock _ ih=>intro ι b a w cs B X h;exact bY h.rel stepR_inBlock (ih ι b a w cs B X (h.same (bZ h.items).2))
 |inScope _ ih=>intro ι b a w cs B X h;exact bY h.rel (step_lone_go (by simp [stepG,stepG.exec,Frame.atR])) (ih ι b a w cs B X (h.same (bZ h.items).2))
 |seq _ ih=>
  intro ι b a w cs B X h;obtain⟨h1,h2⟩:=bZ h.items;simp only [bK,aP,Bool.and_eq_true]at h1;exact bY h.rel stepR_seq (ih ι b a w cs B X (h.same (cA h1.1 (cA h1.2 h2))))
 |block _ ih=>
  intro ι b a w cs B X h;obtain⟨h1,h2⟩:=bZ h.items;exact bY h.rel stepR_block (ih ι b a w cs B X (h.same (cA h1 (cA rfl h2))))
 |scope _ ih=>
  intro ι b a w cs B X h;obtain⟨h1,h2⟩:=bZ h.items;exact bY h.rel (step_lone_go (by simp [stepG,stepG.exec,Frame.atR])) (ih ι b a w cs B X (h.same (cA h1 (cA h1 h2))))
 |loop _ ih=>
  intro ι b a w cs B X h;obtain⟨h1,h2⟩:=bZ h.items;exact bY h.rel stepR_loop (ih ι b a w cs B X (h.same (cA h1 (cA h1 h2))))
 |inLoop _ ih=>
  intro ι b a w cs B X h;obtain⟨h1,h2⟩:=bZ h.items;exact bY h.rel stepR_inLoop (ih ι b a w cs B X (h.same (cA h1 (cA h1 h2))))
 |exit hx _ ih=>intro ι b a w cs B X h;exact bY h.rel (stepR_exit hx) (ih ι b a w cs B X (h.same (rH hx (bZ h.items).2)))
 |goto hx _ ih=>intro ι b a w cs B X h;exact bY h.rel (stepR_goto hx) (ih ι b a w cs B X (h.same (rI hx (bZ h.items).2)))
 |@cond Y rd fn k fr H p r H' p' c x y t hc _ ih=>
  intro ι b a w cs B X h;obtain⟨h1,h2⟩:=bZ h.items;simp only [bK,aP,Bool.and_eq_true]at h1;have hv:=h.fr.ev c;rw [hc]at hv;refine bY h.rel (stepR_cond (o_ hv)) (ih ι b a w cs B X (h.same (cA ?_ h2)));cases t
  ·exact h1.2
  ·exact h1.1
 |drawc h1 h2 h3 _ ih=>exact rO hT hm h1 h2 h3 ih
 |@region Y rd fn k fr H p r H' p' id ops _ ih=>
  intro ι b a w cs B X h;refine bY h.rel stepR_region ?_;have:=ih 0 ι b a w cs B X (by simp) (Nat.zero_le _) (h.same (bZ h.items).2);rw [Nat.sub_zero,<-List.range_eq_range']at this;exact this
 |draw h1 _ ih=>exact tR hT hm h1 ih
 |rangeF h1 h2 _ _ ih1 ih2=>exact rQ h1 h2 ih1 ih2
 |@onil Y rd fn all k fr H p r H' p' _ ih=>
  intro m ι b a w cs B X hos hm h
  have hz:all.size-m=0:=by
   have:=congrArg List.length hos;simp at this;omega
  rw [hz];exact bY h.rel stepR_region_end (ih ι b a w cs B X h)
 |oskip h1 h2 _ ih=>exact rM h1 h2 ih
 |oplain h1 _ h2 h3 _ ih=>exact pI hT h1 h2 h3 ih
 |omkf h1 h2 _ h3 _ ih=>exact tQ h1 h2 h3 ih
 |oclear h1 h2 h3 h4 _ ih=>exact pJ h1 h2 h3 h4 ih
 |ocall h1 h2 h3 _ _ h5 _ ih1 ih2=>exact rN h1 h2 h3 ih1 h5 ih2
 |ocallp h1 h2 h3 _ _ ih=>exact pK h1 h2 h3 ih
 |oyield h1 h2 h3 h4 h5 _ h7 _ ih1 ih2=>exact pL h1 h2 h3 h4 h5 ih1 h7 ih2
end
end Go.Lg
set_option maxRecDepth 1000000
namespace Go.Proofs.YtbeoilidocfofaaGreatDoor
open Go.RowKit Go.Tg Go.Lg
theorem DL (x y:Int) (w:World):Calls Tryz.prog 199 #[.int .i64 x,.int .i64 y] w fun e w'=>e=.panicked [pe 127 (.agg #[.int .i64 x,.int .i64 (if y=0 then 1 else y)])]/\w'=w:=by
 by_cases hy:y=0
 ·subst hy
  go_enter Tryz.func199,Tryz.ntmps199
  go_wp2
  exact⟨rfl,rfl,rfl⟩
 ·have hb:(y==0)=false:=by simp [hy]
  rw [if_neg hy]
  go_enter Tryz.func199,Tryz.ntmps199
  go_wp2
  exact⟨rfl,rfl,rfl⟩
theorem Iy (x y:Int) (w:World):Calls Tryz.prog 196 #[.iface 127 (.agg #[.int .i64 x,.int .i64 y])] w fun e w'=>e=.returned (.agg #[.int .i64 x,.int .i64 y])/\Change (fun _=>False) w w':=by
 have tF:=Tryz.underlying127
 have hta: ∀w xT,(Instr.typeAssert (.iface 127 (.agg #[.int .i64 x,.int .i64 y])) xT 127 true).run Tryz.prog w=.ok (.tuple #[.agg #[.int .i64 x,.int .i64 y],.bool true]) w:=fun w xT=>by
  simp [Instr.typeAssert,run_underlying tF,go_sem,Result.andThen]
 go_enter Tryz.func196,Tryz.ntmps196
 go_wp2
 refine bodyPost_ret (v:=.agg #[.int .i64 x,.int .i64 y]) ?_ rfl ?_
 ·simp [results,Tryz.results196,go_sem]
 ·exact⟨rfl,((Change.refl _ w).alloc _).alloc _⟩
theorem rR (p q:Addr) (w:World):
  CallsD Tryz.prog 195 #[.pointer (some p),.pointer (some q)] .returning w fun e u' w'=>e=.returned (.tuple #[])/\u'=.returning/\w'=w:=by
 refine callsD_of_wpS Tryz.func195 rfl fun c₀ cs hu=>?_;apply wpS_seq;apply wpS_region;simp [wpOpsS,go_sem,recoverD,hu,Tryz.ntmps195,Exit.thenS];apply wpS_seq;apply wpS_region;simp [wpOpsS,go_sem,Exit.thenS,Act.eval];refine wpS_cond (t:=false) (by simp [Act.eval,Array.replicate]) ?_;simp only [Bool.false_eq_true,if_false];refine wpS_of_wp (wp_skip ?_);cases c₀
 simp_all [bodyPostS,results,Tryz.results195]
theorem nQ (k:Nat) (a b c:Value) (x y:Int) (w:World) (h1:w.heap[k]?=some (.cells #[a,b] 127 (0,0))) (h2:w.heap[k+1]?=some (.cells #[c] 4 (0,0))):
  CallsD Tryz.prog 195 #[.pointer (some ⟨k,0,none⟩),.pointer (some ⟨k+1,0,none⟩)] (.panicking [pe 127 (.agg #[.int .i64 x,.int .i64 y])]) w fun e u' w'=>e=.returned (.tuple #[])/\u'=.panicking [{ pe 127 (.agg #[.int .i64 x,.int .i64 y])with recovered:=true }]/\
   ∃w2,Change (fun _=>False) w w2/\w'=((w2.setCell ⟨k,0,none⟩ (.int .i64 x)).setCell ⟨k,1,none⟩ (.int .i64 y)).setCell ⟨k+1,0,none⟩ (.bool true):=by
 refine callsD_of_wpS Tryz.func195 rfl fun c₀ cs hu=>?_;unfold pe at hu;apply wpS_seq;apply wpS_region;simp [wpOpsS,go_sem,recoverD,hu,Tryz.ntmps195,Exit.thenS];apply wpS_seq;apply wpS_region;simp [wpOpsS,go_sem,Exit.thenS,Act.eval];refine wpS_cond (t:=true) (by simp [Act.eval,Array.replicate]) ?_;simp only [if_true];apply wpS_region;simp [wpOpsS,go_sem,Act.eval];refine(Iy x y w).mono ?_;rintro e w2 ⟨rfl,hw⟩;have e1:w2.heap[k]?=some (.cells #[a,b] 127 (0,0)):=by rw [hw.block k (Array.getElem?_eq_some_iff.1 h1).1 (by simp)];exact h1
 have e2:w2.heap[k+1]?=some (.cells #[c] 4 (0,0)):=by rw [hw.block (k+1) (Array.getElem?_eq_some_iff.1 h2).1 (by simp)];exact h2
 have c1:w2.cell? ⟨k,0,none⟩=some a:=by simp [World.cell?,e1]
 have f1:w2.frozen? ⟨k,0,none⟩=false:=by simp [World.frozen?,e1]
 have c2:(w2.setCell ⟨k,0,none⟩ (.int .i64 x)).cell? ⟨k,1,none⟩=some b:=by simp [World.cell?,World.setCell,Array.getElem?_modify,e1]
 have f2:(w2.setCell ⟨k,0,none⟩ (.int .i64 x)).frozen? ⟨k,1,none⟩=false:=by simp [World.frozen?,World.setCell,Array.getElem?_modify,e1]
 have c3:((w2.setCell ⟨k,0,none⟩ (.int .i64 x)).setCell ⟨k,1,none⟩ (.int .i64 y)).cell? ⟨k+1,0,none⟩=some c:=by simp [World.cell?,World.setCell,Array.getElem?_modify,e2]
 have f3:((w2.setCell ⟨k,0,none⟩ (.int .i64 x)).setCell ⟨k,1,none⟩ (.int .i64 y)).frozen? ⟨k+1,0,none⟩=false:=by simp [World.frozen?,World.setCell,Array.getElem?_modify,e2]
 simp only [wpOpsS,c1,f1];simp [wpOpsS,go_sem,Act.eval,c1,f1,c2,f2,c3,f3,Result.andThen];cases c₀
 simp_all [bodyPostS,results,Tryz.results195,pe]
 exact⟨w2,hw,rfl⟩
theorem zF {w w2:World} (h:Change (fun k=>k<w.heap.size) ((w.alloc (.cells #[.int .i64 0,.int .i64 0] 127)).alloc (.cells #[.bool false] 4)) w2):
  w2.heap[w.heap.size]?=some (.cells #[.int .i64 0,.int .i64 0] 127 (0,0))/\w2.heap[w.heap.size+1]?=some (.cells #[.bool false] 4 (0,0)):=by
 have s1:(w.alloc (.cells #[.int .i64 0,.int .i64 0] 127)).heap.size=w.heap.size+1:=World.size_alloc _ _;have s2:=World.size_alloc (w.alloc (.cells #[.int .i64 0,.int .i64 0] 127)) (.cells #[.bool false] 4);constructor
 ·rw [h.block _ (by omega) (by omega),heap_alloc_old _ _ (by omega)];exact World.alloc_heap_new w _
 ·rw [h.block _ (by omega) (by omega)];have:=World.alloc_heap_new (w.alloc (.cells #[.int .i64 0,.int .i64 0] 127)) (.cells #[.bool false] 4)
  rwa [s1]at this
theorem Iz {w2:World} {k:Nat} {a b c x y z:Value} {t u:TypeId} (e1:w2.heap[k]?=some (.cells #[a,b] t (0,0))) (e2:w2.heap[k+1]?=some (.cells #[c] u (0,0))):
  w2.cell? ⟨k,0,none⟩=some a/\w2.frozen? ⟨k,0,none⟩=false/\(w2.setCell ⟨k,0,none⟩ x).cell? ⟨k,1,none⟩=some b/\(w2.setCell ⟨k,0,none⟩ x).frozen? ⟨k,1,none⟩=false/\
  ((w2.setCell ⟨k,0,none⟩ x).setCell ⟨k,1,none⟩ y).cell? ⟨k+1,0,none⟩=some c/\((w2.setCell ⟨k,0,none⟩ x).setCell ⟨k,1,none⟩ y).frozen? ⟨k+1,0,none⟩=false/\
  (((w2.setCell ⟨k,0,none⟩ x).setCell ⟨k,1,none⟩ y).setCell ⟨k+1,0,none⟩ z).cell? ⟨k,0,none⟩=some x/\(((w2.setCell ⟨k,0,none⟩ x).setCell ⟨k,1,none⟩ y).setCell ⟨k+1,0,none⟩ z).cell? ⟨k,1,none⟩=some y/\
  (((w2.setCell ⟨k,0,none⟩ x).setCell ⟨k,1,none⟩ y).setCell ⟨k+1,0,none⟩ z).cell? ⟨k+1,0,none⟩=some z/\Change (fun j=>j=k\/j=k+1) w2 (((w2.setCell ⟨k,0,none⟩ x).setCell ⟨k,1,none⟩ y).setCell ⟨k+1,0,none⟩ z):=by
 refine⟨?_,?_,?_,?_,?_,?_,?_,?_,?_,(((Change.refl _ w2).setCell (.inl (.inl rfl)) x).setCell (.inl (.inl rfl)) y).setCell (.inl (.inr rfl)) z⟩
 all_goals simp [World.cell?,World.frozen?,World.setCell,Array.getElem?_modify,e1,e2]
theorem IA:zw Tryz.prog 127 142:=by
 refine⟨⟨_,Tryz.func142,rfl,by decide⟩,fun g first caps w Rr he hcall hR=>?_⟩;have hmf: ∀(fn:Fn) (first cap:Array Value) (w:World),(Instr.makeFunc fn first cap).run Tryz.prog w=.ok (.func fn first cap) w:=fun _ _ _ _=>rfl
 have hnil: ∀w:World,(binOp BinOp.eql 1 (.func (.func g) first caps) .nilFunc).run Tryz.prog w=.ok (.bool false) w:=fun w=>by
  kernel_rfl
 go_enter_defers Tryz.func142,Tryz.ntmps142
 go_wp2_with (rw [gW he];refine(hcall _ (((Change.refl _ w).alloc _).alloc _)).mono ?_;rintro e w2 hr;obtain⟨hch,hcs⟩:=hR _ _ _ hr;obtain⟨E1,E2⟩:=zF hch;obtain⟨c1,f1,c2,f2,c3,f3,-,-,-,-⟩:=Iz (x:=.int .i64 0) (y:=.int .i64 0) (z:=.bool false) E1 E2;obtain⟨v,rfl⟩|⟨x,y,rfl⟩:=hcs)
 ·obtain⟨-,-,-,-,-,-,d1,d2,d3,hc⟩:=Iz (x:=.int .i64 0) (y:=.int .i64 0) (z:=.bool false) E1 E2;refine leaves_cons (f:=195) (args:=#[.pointer (some ⟨w.heap.size,0,none⟩),.pointer (some ⟨w.heap.size+1,0,none⟩)]) (by simp) (by simp [go_sem]) ?_;refine(rR _ _ _).mono ?_;rintro e u' w'' ⟨rfl,rfl,rfl⟩;simp [Leaves,settle,results,Tryz.results142,go_sem,d1,d2,d3];refine⟨_,((Change.refl _ w).alloc _).alloc _,_,_,hr,hc.mono (fun j _ hj=>?_),⟨v,rfl⟩,rfl⟩;simp only [World.size_alloc];omega
 ·refine leaves_cons (f:=195) (args:=#[.pointer (some ⟨w.heap.size,0,none⟩),.pointer (some ⟨w.heap.size+1,0,none⟩)]) (by simp) (by simp [go_sem]) ?_;refine(nQ _ _ _ _ x y w2 E1 E2).mono ?_;rintro e u' w'' ⟨rfl,rfl,w3,hc3,rfl⟩;have hlt1:=(Array.getElem?_eq_some_iff.1 E1).1;have hlt2:=(Array.getElem?_eq_some_iff.1 E2).1;obtain⟨-,-,-,-,-,-,d1,d2,d3,hc⟩:=Iz (x:=.int .i64 x) (y:=.int .i64 y) (z:=.bool true) (by rw [hc3.block _ hlt1 (by simp)];exact E1) (by rw [hc3.block _ hlt2 (by simp)];exact E2);simp [Leaves,settle,results,Tryz.results142,go_sem,d1,d2,d3,pe];refine⟨_,((Change.refl _ w).alloc _).alloc _,_,_,hr,(hc3.mono (fun _ _ h=>h.elim)).trans (hc.mono (fun j _ hj=>?_)) (fun i hi=>.inl hi),rfl⟩;simp only [World.size_alloc];omega
end Go.Proofs.YtbeoilidocfofaaGreatDoor
namespace Go.Lg
open Go.Tg Go.RowKit
def aZ (P:Program) (E:Ext) (fn:Func) (k:List Item) (fr:Fr) (H:LH) (Q:Value×LH->Prop):Prop:= ∃n r,run P E.loud (LC P E) fn n k fr H=some r/\Q r
def dN (P:Program) (E:Ext) (fn:Func) (all:Array Oper) (os:List Oper) (k:List Item) (fr:Fr) (H:LH) (Q:Value×LH->Prop):Prop:= ∃n r,(match cL P (LC P E) fn.ntmps all os fr H with|some (fr',H')=>run P E.loud (LC P E) fn n k fr' H'|none=>none)=some r/\Q r
def f_ (P:Program) (E:Ext) (fn:Func) (all:Array Oper) (H0:LH) (os:List Oper) (k:List Item) (fr:Fr) (H:LH) (Q:Value×LH->Prop):Prop:= ∃n r,(match cQ P E.loud (LC P E) fn.ntmps all H0 os fr H with|some (fr',H')=>run P E.loud (LC P E) fn n k fr' H'|none=>none)=some r/\Q r
def lB (P:Program) (E:Ext) (fn:Func) (all:Array Oper) (prs:List (Nat×Nat)) (j:Nat) (old:Nat->Fr×LH) (os:List Oper) (k:List Item) (fr:Fr) (H:LH) (Q:Value×LH->Prop):Prop:= ∃n r,(match @aY ⟨E.loud.cv⟩ P (LC P E) fn.ntmps all prs j old os fr H with|some (fr',H')=>run P E.loud (LC P E) fn n k fr' H'|none=>none)=some r/\Q r
def Lc (P:Program) (E:Ext) (fn:Func) (prs:List (Nat×Nat)) (l:List Oper) (k:List Item) (fr:Fr) (H:LH) (Q:Value×LH->Prop):Prop:=lB P E fn ⟨l⟩ prs 0 (fun _=>(fr,H)) l k fr H Q
def IB (P:Program) (E:Ext) (fn:Func) (x:Option (List (Nat×Nat))) (p:List Nat) (l:List Oper) (k:List Item) (fr:Fr) (H:LH) (Q:Value×LH->Prop):Prop:=
 match x with
 |none=>f_ P E fn ⟨l⟩ H l k fr H Q
 |some prs=>Lc P E fn prs (dD p l) k fr H Q
def mK (old:Nat->Fr×LH) (k:Nat) (x:Fr×LH):Nat->Fr×LH:=fun j=>if j=k then x else old j
def nR (P:Program) (k:Nat) (op:Op) (fr:Fr) (old:Nat->Fr×LH) (v:Value):List (Nat×Nat)->Prop
 | []=>True
 |(i,j)::ps=>(i=k/\j<k->bS P T0 ⟨none,op,0,"",#[],none⟩ fr (old j).2=some (v,(old j).2))/\nR P k op fr old v ps
def rS (P:Program) (all:Array Oper) (o:Option Oper) (x:Fr×LH) (fr':Fr) (H':LH):Prop:=
 match o with
 |some o=> ∀d,o.dst=some d->aQ all x.1 o=some true->bS P T0 o x.1 H'=some (fr' d,H')
 |none=>True
def j6 (P:Program) (k:Nat) (all:Array Oper) (old:Nat->Fr×LH) (fr':Fr) (H':LH):List (Nat×Nat)->Prop
 | []=>True
 |(i,j)::ps=>(j=k/\i<k->rS P all all[i]? (old i) fr' H')/\j6 P k all old fr' H' ps
def Step (P:Program) (E:Ext) (fn:Func) (x:Option (Value×LH)) (d:Nat) (all:Array Oper) (os:List Oper) (k:List Item) (fr:Fr) (Q:Value×LH->Prop):Prop:=
 match x with
 |some (v,H)=>d<fn.ntmps/\dN P E fn all os k (upd fr d v) H Q
 |none=>False
def gH (P:Program) (E:Ext) (fn:Func) (x:Option (Value×LH)) (d:Nat) (all:Array Oper) (H0:LH) (os:List Oper) (k:List Item) (fr:Fr) (Q:Value×LH->Prop):Prop:=
 match x with
 |some (v,H)=>d<fn.ntmps/\f_ P E fn all H0 os k (upd fr d v) H Q
 |none=>False
def eU (b:Bool) (A B:Prop):Prop:=match b with|true=>A|false=>B
def rT (x:Option Value) (H:LH) (Q:Value×LH->Prop):Prop:=match x with|some v=>Q (v,H)|none=>False
def aM (P:Program) (T:Callee) (op:Op) (fr:Fr) (H:LH):Option (Value×LH):=bS P T ⟨none,op,0,"",#[],none⟩ fr H
def aR (c:TypeId->TypeId->Bool) (P:Program) (T:Callee) (op:Op) (fr:Fr) (H:LH):Option (Value×LH):=@cY ⟨c⟩ P T ⟨none,op,0,"",#[],none⟩ fr H
def ba (P:Program) (T:Callee) (op:Op) (fr:Fr) (H:LH):Option (Value×LH):=match op with
 |.convert s d x=>match db P s d (ev fr x) H with
  |some r=>some r
  |none=>aM P T (.convert s d x) fr H
 |op=>aM P T op fr H
def bu (P:Program) (T:Callee) (op:Op) (fr:Fr) (H0 H:LH):Option (Value×LH):=bH P T ⟨none,op,0,"",#[],none⟩ fr H0 H
def bP (all:Array Oper) (fr:Fr) (j:Nat) (want:Bool):Option Bool:=
 match (all[j]?).bind (·.dst)with
 |none=>some false
 |some d=>match fr d with
  |.bool b=>some (b==want)
  |v=>if ao v then some false else none
def GStep (P:Program) (E:Ext) (fn:Func) (g:Option Bool) (op:Op) (d:Nat) (all:Array Oper) (os:List Oper) (k:List Item) (fr:Fr) (H:LH) (Q:Value×LH->Prop):Prop:=
 match g with
 |some true=>Step P E fn (ba P (LC P E) op fr H) d all os k fr Q
 |some false=>d<fn.ntmps/\dN P E fn all os k (upd fr d undef) H Q
 |none=>False
def iI (P:Program) (E:Ext) (fn:Func) (g:Option Bool) (op:Op) (d:Nat) (all:Array Oper) (H0:LH) (os:List Oper) (k:List Item) (fr:Fr) (H:LH) (Q:Value×LH->Prop):Prop:=
 match g with
 |some true=>gH P E fn (bu P (LC P E) op fr H0 H) d all H0 os k fr Q
 |some false=>d<fn.ntmps/\f_ P E fn all H0 os k (upd fr d undef) H Q
 |none=>False
def nS (P:Program) (E:Ext) (fn:Func) (all:Array Oper) (os:List Oper) (k:List Item) (fr:Fr) (H:LH) (Q:Value×LH->Prop):Prop:= ∃n r,(match @fe ⟨E.loud.cv⟩ P (LC P E) fn.ntmps all os fr H with|some (fr',H')=>run P E.loud (LC P E) fn n k fr' H'|none=>none)=some r/\Q r
def fz (P:Program) (E:Ext) (fn:Func) (x:Option (Value×LH)) (d:Nat) (all:Array Oper) (os:List Oper) (k:List Item) (fr:Fr) (Q:Value×LH->Prop):Prop:=
 match x with
 |some (v,H)=>d<fn.ntmps/\nS P E fn all os k (upd fr d v) H Q
 |none=>False
def hG (P:Program) (E:Ext) (fn:Func) (x:Option (Value×LH)) (all:Array Oper) (os:List Oper) (k:List Item) (fr:Fr) (Q:Value×LH->Prop):Prop:=
 match x with
 |some (_,H)=>nS P E fn all os k fr H Q
 |none=>False
def IC (P:Program) (E:Ext) (fn:Func) (g:Option Bool) (op:Op) (d:Nat) (all:Array Oper) (os:List Oper) (k:List Item) (fr:Fr) (H:LH) (Q:Value×LH->Prop):Prop:=
 match g with
 |some true=>fz P E fn (aR E.loud.cv P (LC P E) op fr H) d all os k fr Q
 |some false=>d<fn.ntmps/\nS P E fn all os k (upd fr d undef) H Q
 |none=>False
section
variable {P:Program} {E:Ext} {fn:Func} {k:List Item} {fr:Fr} {H H' H0:LH} {Q:Value×LH->Prop} {all:Array Oper} {os:List Oper} {ty:TypeId} {pos:String} {after:Array Edge} {d:Nat} {op:Op}
theorem kt {c:TypeId->TypeId->Bool} (dst:Option Tmp) (g:Option (Nat×Bool)) (T:Callee):@cY ⟨c⟩ P T ⟨dst,op,ty,pos,after,g⟩ fr H=aR c P T op fr H:=rfl
theorem M8 (dst:Option Tmp) (g:Option (Nat×Bool)) (T:Callee):bS P T ⟨dst,op,ty,pos,after,g⟩ fr H=aM P T op fr H:=rfl
theorem gf (dst:Option Tmp) (g:Option (Nat×Bool)) (T:Callee):fD P T ⟨dst,op,ty,pos,after,g⟩ fr H=ba P T op fr H:=by
 cases op<;>rfl
theorem ju (dst:Option Tmp) (g:Option (Nat×Bool)) (T:Callee):bH P T ⟨dst,op,ty,pos,after,g⟩ fr H0 H=bu P T op fr H0 H:=by
 cases op<;>rfl
theorem cV {p:Nat->Prop} (h0: ¬p 0):(∃n,p n)↔ ∃n,p (n+1):=⟨fun⟨n,h⟩=>by cases n with|zero=>exact absurd h h0|succ n=>exact⟨n,h⟩,fun⟨n,h⟩=>⟨_,h⟩⟩
theorem zG:aZ P E fn [] fr H Q↔rT (aX P fn fr H) H Q:=by
 unfold aZ;rw [cV (by simp [run])];simp only [run];unfold rT;cases aX P fn fr H<;>simp
theorem wT:aZ P E fn (.code .skip::k) fr H Q↔aZ P E fn k fr H Q:=by
 unfold aZ;rw [cV (by simp [run])];simp only [run]
theorem tS {l:Nat} :aZ P E fn (.code (.label l)::k) fr H Q↔aZ P E fn k fr H Q:=by
 unfold aZ;rw [cV (by simp [run])];simp only [run]
theorem zH {x y:Code} :aZ P E fn (.code (.seq x y)::k) fr H Q↔aZ P E fn (.code x::.code y::k) fr H Q:=by
 unfold aZ;rw [cV (by simp [run])];simp only [run]
theorem tT {id:Nat} {x:Code} :aZ P E fn (.code (.block id x)::k) fr H Q↔aZ P E fn (.code x::.inBlock id::k) fr H Q:=by
 unfold aZ;rw [cV (by simp [run])];simp only [run]
theorem pM {id:Nat} :aZ P E fn (.inBlock id::k) fr H Q↔aZ P E fn k fr H Q:=by
 unfold aZ;rw [cV (by simp [run])];simp only [run]
theorem wU {x:Code} :aZ P E fn (.code (.loop x)::k) fr H Q↔aZ P E fn (.inLoop x::k) fr H Q:=by
 unfold aZ;rw [cV (by simp [run])];rw [cV (p:=fun n=> ∃r,run P E.loud (LC P E) fn n (.inLoop x::k) fr H=some r/\Q r) (by simp [run])];simp only [run]
theorem rU {x:Code} :aZ P E fn (.inLoop x::k) fr H Q↔aZ P E fn (.code x::.inLoop x::k) fr H Q:=by
 unfold aZ;rw [cV (by simp [run])];simp only [run]
theorem zI:aZ P E fn (.code .ret::k) fr H Q↔rT (aX P fn fr H) H Q:=by
 unfold aZ;rw [cV (by simp [run])];simp only [run];unfold rT;cases aX P fn fr H<;>simp
theorem wV {id:Nat} :aZ P E fn (.code (.exit id)::k) fr H Q↔match exitTo id k with|some k'=>aZ P E fn k' fr H Q|none=>False:=by
 unfold aZ;rw [cV (by simp [run])];simp only [run];cases exitTo id k<;>simp
theorem wW {c:Operand} {x y:Code} {b:Bool} (h:ev fr c=.bool b):aZ P E fn (.code (.cond c x y)::k) fr H Q↔if b=true then aZ P E fn (.code x::k) fr H Q else aZ P E fn (.code y::k) fr H Q:=by
 unfold aZ;rw [cV (by simp [run])];simp only [run,h];cases b<;>simp
theorem rV {id:Nat} {l:List Oper} :aZ P E fn (.code (.region id ⟨l⟩ false)::k) fr H Q↔dN P E fn ⟨l⟩ l k fr H Q:=by
 unfold aZ dN;rw [cV (by simp [run])];simp only [run];exact Iff.rfl
theorem wX {id:Nat} {l:List Oper} :aZ P E fn (.code (.region id ⟨l⟩ true)::k) fr H Q↔IB P E fn (E.loud.ch fn.ntmps id l.length) (E.loud.pm fn.ntmps id l.length) l k fr H Q:=by
 unfold aZ IB f_ Lc lB;rw [cV (by simp [run])];simp only [run,dO,drawn];rw [show(⟨l⟩:Array Oper).size=l.length from rfl];cases E.loud.ch fn.ntmps id l.length<;>exact Iff.rfl
theorem zJ:dN P E fn all [] k fr H Q↔aZ P E fn k fr H Q:=by
 unfold dN aZ;simp only [cL]
theorem zK:f_ P E fn all H0 [] k fr H Q↔aZ P E fn k fr H Q:=by
 unfold f_ aZ;simp only [cQ]
theorem wY:dN P E fn all (⟨some d,op,ty,pos,after,none⟩::os) k fr H Q↔Step P E fn (ba P (LC P E) op fr H) d all os k fr Q:=by
 unfold dN Step;simp only [cL,aQ,gf];cases ba P (LC P E) op fr H with
 |none=>simp
 |some x=>
  obtain⟨v,H1⟩:=x;simp only [bb];by_cases hd:d<fn.ntmps
  ·simp only [hd,dN,true_and,if_true]
  ·simp [hd]
theorem tU:dN P E fn all (⟨none,op,ty,pos,after,none⟩::os) k fr H Q↔match ba P (LC P E) op fr H with|some (_,H')=>dN P E fn all os k fr H' Q|none=>False:=by
 unfold dN;simp only [cL,aQ,gf];cases ba P (LC P E) op fr H with
 |none=>simp
 |some x=>simp only [bb]
theorem wZ:f_ P E fn all H0 (⟨some d,op,ty,pos,after,none⟩::os) k fr H Q↔eU (aN E.loud op) (dN P E fn all (⟨some d,op,ty,pos,after,none⟩::os) k fr H Q) (gH P E fn (bu P (LC P E) op fr H0 H) d all H0 os k fr Q):=by
 unfold f_ eU;cases hl:aN E.loud op with
 |true=>unfold dN;simp only [cQ,hl,if_true]
 |false=>
  unfold gH;simp only [cQ,hl,Bool.false_eq_true,if_false,aQ,ju];by_cases hd:d<fn.ntmps
  ·simp only [if_pos hd];cases bu P (LC P E) op fr H0 H with
   |none=>simp
   |some x=>simp only [hd,f_,true_and]
  ·simp only [if_neg hd];cases bu P (LC P E) op fr H0 H with
   |none=>simp
   |some x=>simp [hd]
theorem tV:f_ P E fn all H0 (⟨none,op,ty,pos,after,none⟩::os) k fr H Q↔eU (aN E.loud op) (dN P E fn all (⟨none,op,ty,pos,after,none⟩::os) k fr H Q) False:=by
 unfold f_ eU;cases hl:aN E.loud op with
 |true=>unfold dN;simp only [cQ,hl,if_true]
 |false=>simp [cQ,hl]
theorem cB {j:Nat} {want:Bool} {dst:Option Tmp} :aQ all fr ⟨dst,op,ty,pos,after,some (j,want)⟩=bP all fr j want:=rfl
theorem tW {j:Nat} {want:Bool} :dN P E fn all (⟨some d,op,ty,pos,after,some (j,want)⟩::os) k fr H Q↔GStep P E fn (bP all fr j want) op d all os k fr H Q:=by
 unfold dN GStep;simp only [cL,cB,gf];cases bP all fr j want with
 |none=>simp
 |some b=>
  cases b with
  |true=>
   simp only [Step];cases ba P (LC P E) op fr H with
   |none=>simp
   |some x=>
    obtain⟨v,H1⟩:=x;simp only [bb];by_cases hd:d<fn.ntmps
    ·simp only [hd,dN,true_and,if_true]
    ·simp [hd]
  |false=>
   simp only [bb];by_cases hd:d<fn.ntmps
   ·simp only [hd,dN,true_and,if_true]
   ·simp [hd]
theorem tX {j:Nat} {want:Bool} :f_ P E fn all H0 (⟨some d,op,ty,pos,after,some (j,want)⟩::os) k fr H Q↔eU (aN E.loud op) (dN P E fn all (⟨some d,op,ty,pos,after,some (j,want)⟩::os) k fr H Q) (iI P E fn (bP all fr j want) op d all H0 os k fr H Q):=by
 unfold f_ eU;cases hl:aN E.loud op with
 |true=>unfold dN;simp only [cQ,hl,if_true]
 |false=>
  unfold iI;simp only [cQ,hl,Bool.false_eq_true,if_false,cB,ju];by_cases hd:d<fn.ntmps
  ·simp only [if_pos hd];cases bP all fr j want with
   |none=>simp
   |some b=>
    cases b with
    |true=>
     unfold gH;simp only;cases bu P (LC P E) op fr H0 H with
     |none=>simp
     |some x=>simp only [hd,f_,true_and]
    |false=>simp only [hd,f_,true_and]
  ·simp only [if_neg hd];cases bP all fr j want with
   |none=>simp
   |some b=>
    cases b with
    |true=>
     unfold gH;simp only;cases bu P (LC P E) op fr H0 H with
     |none=>simp
     |some x=>simp [hd]
    |false=>simp [hd]
theorem w7 {v:Value} :Step P E fn (some (v,H)) d all os k fr Q↔d<fn.ntmps/\dN P E fn all os k (upd fr d v) H Q:=Iff.rfl
theorem tY {v:Value} :gH P E fn (some (v,H)) d all H0 os k fr Q↔d<fn.ntmps/\f_ P E fn all H0 os k (upd fr d v) H Q:=Iff.rfl
theorem w9 {A B:Prop} :eU true A B↔A:=Iff.rfl
theorem tZ {A B:Prop} :eU false A B↔B:=Iff.rfl
theorem t_:GStep P E fn (some true) op d all os k fr H Q↔Step P E fn (ba P (LC P E) op fr H) d all os k fr Q:=Iff.rfl
theorem rW:GStep P E fn (some false) op d all os k fr H Q↔d<fn.ntmps/\dN P E fn all os k (upd fr d undef) H Q:=Iff.rfl
theorem rX:iI P E fn (some true) op d all H0 os k fr H Q↔gH P E fn (bu P (LC P E) op fr H0 H) d all H0 os k fr Q:=Iff.rfl
theorem pN:iI P E fn (some false) op d all H0 os k fr H Q↔d<fn.ntmps/\f_ P E fn all H0 os k (upd fr d undef) H Q:=Iff.rfl
theorem zL {p:List Nat} {l:List Oper} :IB P E fn none p l k fr H Q↔f_ P E fn ⟨l⟩ H l k fr H Q:=Iff.rfl
theorem zM {l:List Oper} {prs:List (Nat×Nat)} :IB P E fn (some prs) [] l k fr H Q↔lB P E fn ⟨l⟩ prs 0 (fun _=>(fr,H)) l k fr H Q:=Iff.rfl
theorem zN {a:Nat} {p:List Nat} {l:List Oper} {prs:List (Nat×Nat)} :IB P E fn (some prs) (a::p) l k fr H Q↔Lc P E fn prs (pmap (a::p) l (a::p)) k fr H Q:=Iff.rfl
theorem ID {o:Oper} {l:List Oper} {prs:List (Nat×Nat)} :Lc P E fn prs (o::l) k fr H Q↔lB P E fn ⟨o::l⟩ prs 0 (fun _=>(fr,H)) (o::l) k fr H Q:=Iff.rfl
theorem gg [cv:Cvt] {T:Callee} {N:Nat} {j:Nat} {old:Nat->Fr×LH} : ∀ {os:List Oper} {j:Nat} {old:Nat->Fr×LH} {fr:Fr} {H:LH},aY P T N all [] j old os fr H=fe P T N all os fr H
 | [],j,old,fr,H=>rfl
 |o::os,j,old,fr,H=>by
  unfold aY fe;split
  ·split
   ·split
    ·rw [if_pos ⟨fun _ h=>by simp at h,fun _ h=>by simp at h⟩];exact gg (j:=j) (old:=old)
    ·rfl
   ·rfl
  ·split
   ·rw [if_pos (fun _ h=>by simp at h)];exact gg (j:=j) (old:=old)
   ·rfl
  ·rfl
theorem zO {j:Nat} {old:Nat->Fr×LH} :lB P E fn all [] j old os k fr H Q↔nS P E fn all os k fr H Q:=by
 unfold lB nS;rw [gg (cv:=⟨E.loud.cv⟩) (j:=j) (old:=old)]
theorem DM:nS P E fn all [] k fr H Q↔aZ P E fn k fr H Q:=by
 unfold nS aZ;simp only [fe]
theorem zP:nS P E fn all (⟨some d,op,ty,pos,after,none⟩::os) k fr H Q↔fz P E fn (aR E.loud.cv P (LC P E) op fr H) d all os k fr Q:=by
 unfold nS fz;simp only [fe,aQ,kt];cases aR E.loud.cv P (LC P E) op fr H with
 |none=>simp
 |some x=>
  obtain⟨v,H1⟩:=x;simp only [bb];by_cases hd:d<fn.ntmps
  ·simp only [hd,nS,true_and,if_true]
  ·simp [hd]
theorem w_:nS P E fn all (⟨none,op,ty,pos,after,none⟩::os) k fr H Q↔hG P E fn (aR E.loud.cv P (LC P E) op fr H) all os k fr Q:=by
 unfold nS hG;simp only [fe,aQ,kt];cases aR E.loud.cv P (LC P E) op fr H with
 |none=>simp
 |some x=>obtain⟨v,H1⟩:=x;simp only [bb,nS]
theorem xa {j:Nat} {want:Bool} :nS P E fn all (⟨some d,op,ty,pos,after,some (j,want)⟩::os) k fr H Q↔IC P E fn (bP all fr j want) op d all os k fr H Q:=by
 unfold nS IC;simp only [fe,cB,kt];cases bP all fr j want with
 |none=>simp
 |some b=>
  cases b with
  |true=>
   simp only [fz];cases aR E.loud.cv P (LC P E) op fr H with
   |none=>simp
   |some x=>
    obtain⟨v,H1⟩:=x;simp only [bb];by_cases hd:d<fn.ntmps
    ·simp only [hd,nS,true_and,if_true]
    ·simp [hd]
  |false=>
   simp only [bb];by_cases hd:d<fn.ntmps
   ·simp only [hd,nS,true_and,if_true]
   ·simp [hd]
section
variable {prs:List (Nat×Nat)} {j:Nat} {old:Nat->Fr×LH}
theorem DN:lB P E fn all prs j old [] k fr H Q↔aZ P E fn k fr H Q:=by
 unfold lB aZ;simp only [aY]
theorem gh {v:Value} (dst:Option Tmp) (g:Option (Nat×Bool)): ∀ {prs:List (Nat×Nat)},nR P j op fr old v prs↔ ∀i,(j,i)∈prs->i<j->bS P T0 ⟨dst,op,ty,pos,after,g⟩ fr (old i).2=some (v,(old i).2)
 | []=>by simp [nR]
 |(a,b)::ps=>by
  have ih:=gh (v:=v) dst g (prs:=ps);unfold nR;rw [ih];simp only [M8];constructor
  ·rintro⟨h1,h2⟩ i hi hij;rcases List.mem_cons.1 hi with e|e
   ·injection e with e1 e2;subst e1 e2;exact h1 ⟨rfl,hij⟩
   ·exact h2 i e hij
  ·intro h;exact⟨fun⟨e,hb⟩=>h b (by rw [e];exact List.mem_cons_self ..) hb,fun i hi hij=>h i (List.mem_cons_of_mem _ hi) hij⟩
theorem b9 {fr':Fr} : ∀ {prs:List (Nat×Nat)},j6 P j all old fr' H' prs↔ ∀i,(i,j)∈prs->i<j-> ∀oi d,all[i]?=some oi->oi.dst=some d->aQ all (old i).1 oi=some true->bS P T0 oi (old i).1 H'=some (fr' d,H')
 | []=>by simp [j6]
 |(a,b)::ps=>by
  have ih:=b9 (fr':=fr') (prs:=ps);unfold j6;rw [ih];constructor
  ·rintro⟨h1,h2⟩ i hi hij oi d ho hd hw;rcases List.mem_cons.1 hi with e|e
   ·injection e with e1 e2;subst e1 e2;have:=h1 ⟨rfl,hij⟩;unfold rS at this;rw [ho]at this;exact this d hd hw
   ·exact h2 i e hij oi d ho hd hw
  ·intro h;refine⟨fun⟨e,hb⟩=>?_,fun i hi hij=>h i (List.mem_cons_of_mem _ hi) hij⟩;unfold rS;cases ho:all[a]? with
   |none=>trivial
   |some oi=>exact fun d hd hw=>h a (by rw [e];exact List.mem_cons_self ..) hb oi d ho hd hw
def iy (P:Program) (E:Ext) (fn:Func) (x:Option (Value×LH)) (d:Nat) (op:Op) (all:Array Oper) (prs:List (Nat×Nat)) (j:Nat) (old:Nat->Fr×LH) (os:List Oper) (k:List Item) (fr:Fr) (H:LH) (Q:Value×LH->Prop):Prop:=
 match x with
 |some (v,H')=>d<fn.ntmps/\nR P j op fr old v prs/\j6 P j all old (upd fr d v) H' prs/\lB P E fn all prs (j+1) (mK old j (fr,H)) os k (upd fr d v) H' Q
 |none=>False
def ku (P:Program) (E:Ext) (fn:Func) (x:Option (Value×LH)) (op:Op) (all:Array Oper) (prs:List (Nat×Nat)) (j:Nat) (old:Nat->Fr×LH) (os:List Oper) (k:List Item) (fr:Fr) (H:LH) (Q:Value×LH->Prop):Prop:=
 match x with
 |some (v,H')=>nR P j op fr old v prs/\j6 P j all old fr H' prs/\lB P E fn all prs (j+1) (mK old j (fr,H)) os k fr H' Q
 |none=>False
def CG (P:Program) (E:Ext) (fn:Func) (g:Option Bool) (op:Op) (d:Nat) (all:Array Oper) (prs:List (Nat×Nat)) (j:Nat) (old:Nat->Fr×LH) (os:List Oper) (k:List Item) (fr:Fr) (H:LH) (Q:Value×LH->Prop):Prop:=
 match g with
 |some true=>iy P E fn (aR E.loud.cv P (LC P E) op fr H) d op all prs j old os k fr H Q
 |some false=>d<fn.ntmps/\j6 P j all old (upd fr d undef) H prs/\lB P E fn all prs (j+1) (mK old j (fr,H)) os k (upd fr d undef) H Q
 |none=>False
theorem jw {dst:Option Tmp} :aQ all fr ⟨dst,op,ty,pos,after,none⟩=some true:=rfl
theorem zQ:lB P E fn all prs j old (⟨some d,op,ty,pos,after,none⟩::os) k fr H Q↔iy P E fn (aR E.loud.cv P (LC P E) op fr H) d op all prs j old os k fr H Q:=by
 unfold lB iy;simp only [aY,jw];rw [show aR E.loud.cv P (LC P E) op fr H=@cY ⟨E.loud.cv⟩ P (LC P E) ⟨some d,op,ty,pos,after,none⟩ fr H from rfl];cases @cY ⟨E.loud.cv⟩ P (LC P E) ⟨some d,op,ty,pos,after,none⟩ fr H with
 |none=>simp
 |some x=>
  obtain⟨v,H1⟩:=x;simp only [bb];by_cases hd:d<fn.ntmps
  ·simp only [hd,if_true,true_and];have e1:=gh (P:=P) (op:=op) (fr:=fr) (old:=old) (j:=j) (v:=v) (ty:=ty) (pos:=pos) (after:=after) (some d) none (prs:=prs);by_cases hc:nR P j op fr old v prs/\j6 P j all old (upd fr d v) H1 prs
   ·rw [if_pos (And.intro (e1.1 hc.1) (b9.1 hc.2))];simp only [hc,true_and,lB];exact Iff.rfl
   ·rw [if_neg (fun h=>hc (And.intro (e1.2 (And.left h)) (b9.2 (And.right h))))];constructor
    ·rintro⟨n,r,h,_⟩;simp at h
    ·rintro⟨h1,h2,_⟩;exact absurd ⟨h1,h2⟩ hc
  ·simp [hd]
theorem xb:lB P E fn all prs j old (⟨none,op,ty,pos,after,none⟩::os) k fr H Q↔ku P E fn (aR E.loud.cv P (LC P E) op fr H) op all prs j old os k fr H Q:=by
 unfold lB ku;simp only [aY,jw];rw [show aR E.loud.cv P (LC P E) op fr H=@cY ⟨E.loud.cv⟩ P (LC P E) ⟨none,op,ty,pos,after,none⟩ fr H from rfl];cases @cY ⟨E.loud.cv⟩ P (LC P E) ⟨none,op,ty,pos,after,none⟩ fr H with
 |none=>simp
 |some x=>
  obtain⟨v,H1⟩:=x;simp only [bb];have e1:=gh (P:=P) (op:=op) (fr:=fr) (old:=old) (j:=j) (v:=v) (ty:=ty) (pos:=pos) (after:=after) none none (prs:=prs);by_cases hc:nR P j op fr old v prs/\j6 P j all old fr H1 prs
  ·rw [if_pos (And.intro (e1.1 hc.1) (b9.1 hc.2))];simp only [hc,true_and,lB];exact Iff.rfl
  ·rw [if_neg (fun h=>hc (And.intro (e1.2 (And.left h)) (b9.2 (And.right h))))];constructor
   ·rintro⟨n,r,h,_⟩;simp at h
   ·rintro⟨h1,h2,_⟩;exact absurd ⟨h1,h2⟩ hc
theorem xc {g:Nat} {want:Bool} :lB P E fn all prs j old (⟨some d,op,ty,pos,after,some (g,want)⟩::os) k fr H Q↔CG P E fn (bP all fr g want) op d all prs j old os k fr H Q:=by
 unfold lB CG;simp only [aY,cB];cases bP all fr g want with
 |none=>simp
 |some b=>
  cases b with
  |true=>
   simp only [iy];rw [show aR E.loud.cv P (LC P E) op fr H=@cY ⟨E.loud.cv⟩ P (LC P E) ⟨some d,op,ty,pos,after,some (g,want)⟩ fr H from rfl];cases @cY ⟨E.loud.cv⟩ P (LC P E) ⟨some d,op,ty,pos,after,some (g,want)⟩ fr H with
   |none=>simp
   |some x=>
    obtain⟨v,H1⟩:=x;simp only [bb];by_cases hd:d<fn.ntmps
    ·simp only [hd,if_true,true_and];have e1:=gh (P:=P) (op:=op) (fr:=fr) (old:=old) (j:=j) (v:=v) (ty:=ty) (pos:=pos) (after:=after) (some d) (some (g,want)) (prs:=prs);by_cases hc:nR P j op fr old v prs/\j6 P j all old (upd fr d v) H1 prs
     ·rw [if_pos (And.intro (e1.1 hc.1) (b9.1 hc.2))];simp only [hc,true_and,lB];exact Iff.rfl
     ·rw [if_neg (fun h=>hc (And.intro (e1.2 (And.left h)) (b9.2 (And.right h))))];constructor
      ·rintro⟨n,r,h,_⟩;simp at h
      ·rintro⟨h1,h2,_⟩;exact absurd ⟨h1,h2⟩ hc
    ·simp [hd]
  |false=>
   simp only [bb];by_cases hd:d<fn.ntmps
   ·simp only [hd,if_true,true_and];by_cases hc:j6 P j all old (upd fr d undef) H prs
    ·rw [if_pos (b9.1 hc)];simp only [hc,true_and,lB];exact Iff.rfl
    ·rw [if_neg (fun h=>hc (b9.2 h))];constructor
     ·rintro⟨n,r,h,_⟩;simp at h
     ·rintro⟨h1,_⟩;exact absurd h1 hc
   ·simp [hd]
end
theorem aK {St:Type} (R:St->Fr->LH->Prop) (μ:St->Nat) {x:Code} (st:St) (h:R st fr H)
  (step: ∀st fr H,R st fr H->(∀st' fr' H',μ st'<μ st->R st' fr' H'->aZ P E fn (.inLoop x::k) fr' H' Q)->aZ P E fn (.code x::.inLoop x::k) fr H Q):aZ P E fn (.code (.loop x)::k) fr H Q:=by
 have key: ∀m st fr H,μ st<m->R st fr H->aZ P E fn (.inLoop x::k) fr H Q:=by
  intro m;induction m with
  |zero=>intro st fr H hm;omega
  |succ m ih=>
   intro st fr H hm hR;exact rU.2 (step st fr H hR (fun st' fr' H' hlt hR'=>ih st' fr' H' (by omega) hR'))
 exact wU.2 (key (μ st+1) st fr H (Nat.lt_succ_self _) h)
theorem aD {f:FuncId} {c:Code} {args:List Value} (he:E f=none) (hf:P.funcs[f]?=some fn) (hb:fn.body=some c) (hN:args.length<=fn.ntmps) (hname:fn.name≠ "runtime.NumGoroutine") (hcd:codeOk E.loud fn.ntmps c=true)
  (hr:aZ P E fn [.code c] (enter args) H Q): ∃r,LC P E f args H=some (trunc H r)/\Q r:=by
 obtain⟨n,r,hn,hq⟩:=hr;exact⟨r,DI he hf hb hN hname hcd hn,hq⟩
theorem ua {v:Value} (hv:ao v=true) (hle:H.le H'):trunc H (v,H')=(v,H):=by
 unfold trunc;rw [if_pos ⟨hv,hle⟩]
theorem ag {f:FuncId} {c:Code} {args:List Value} {v:Value} (he:E f=none) (hf:P.funcs[f]?=some fn) (hb:fn.body=some c) (hN:args.length<=fn.ntmps) (hname:fn.name≠ "runtime.NumGoroutine") (hcd:codeOk E.loud fn.ntmps c=true)
  (hv:ao v=true) (hr:aZ P E fn [.code c] (enter args) H (fun r=>r.1=v/\H.le r.2)):LC P E f args H=some (v,H):=by
 obtain⟨⟨v',H'⟩,h,rfl,hle⟩:=aD he hf hb hN hname hcd hr;rw [h,ua hv hle]
theorem le_refl:H.le H:=⟨Nat.le_refl _,fun _ _=>rfl⟩
end
section
variable {P:Program} {H:LH} {ι:Ren} {w w':World} {f:FuncId} {args:List Value} {v:Value}
def LH.bare (H:LH):LH:=LH.empty H.base H.ng
theorem zR (h:Rel P H ι w):Rel P H.bare ι w:=
 ⟨fun _ _=>rfl,fun _ hl=>False.elim hl,fun _ _ hb=>(by cases hb),fun _ _ _ _ hb=>(by cases hb),fun g hg=>⟨(h.pin g hg).1,(h.pin g hg).2.1,fun⟨_,_,hb,_⟩=>(by cases hb)⟩⟩
theorem vy {k:Nat} : ¬RW H.bare ι k:=fun⟨_,_,hb,_⟩=>by cases hb
theorem zS (h:Rel P H ι w) (hc:Change (RW H.bare ι) w w'):Out P H ι w H ι w':=by
 have hc':Change (RW H ι) w w':=hc.mono fun k _ hk=>(vy hk).elim;refine⟨⟨h.dom,h.hol,fun l b hb=>?_,h.sep,ed h hc' (fun _ hk=>.inl hk) rfl rfl⟩,Nat.le_refl _,fun _ h=>h,fun _ _=>rfl,hc',fun k hk=>.inl hk,fun k hk=>.inl hk,rfl⟩;obtain⟨arr,t,fr,hw,hr⟩:=h.blk l b hb;exact⟨arr,t,fr,by rw [hc.block _ (lt_of_block hw) vy];exact hw,hr⟩
theorem zT (h:Gw P f args H.bare v H.bare) (ha: ∀x∈args,ao x=true) (hv:ao v=true):Gw P f args H v H:=by
 rcases h with⟨he,hc⟩|⟨_,hx⟩
 ·refine .inl ⟨he,fun ι w args' h1 h2 h3=>(hc ι w args' (zR h1) h2 fun i x y hx hy=>?_).mono ?_⟩
  ·have hf:=ha x (List.mem_of_getElem? hx);rw [aE (h3 i x y hx hy) hf];exact .flat _ hf
  ·rintro e w' ⟨ι',v',rfl,ho,hv'⟩;rw [aE hv' hv];exact⟨ι,v,rfl,zS h1 ho.chg,.flat _ hv⟩
 ·exact .inr ⟨rfl,hx⟩
end
def Bs (H H':LH):Prop:=H'.base=H.base/\H'.ng=H.ng
theorem Bs.refl (H:LH):Bs H H:=⟨rfl,rfl⟩
theorem Bs.trans {H H1 H2:LH} (h:Bs H H1) (k:Bs H1 H2):Bs H H2:=⟨k.1.trans h.1,k.2.trans h.2⟩
def C3 (T:Callee):Prop:= ∀f args H v H',T f args H=some (v,H')->Bs H H'
section
variable {P:Program} {T:Callee} {fr fr':Fr} {H H' H0:LH} {o:Oper} {v x y:Value} {N:Nat}
theorem zU {t:TypeId} {l off:Nat} (h:fS P t l off v H=some H'):Bs H H':=by
 unfold fS at h;split at h
 ·split at h
  ·injection h with h;subst h;exact⟨rfl,rfl⟩
  ·cases h
 ·cases h
theorem nT {t:TypeId} {len:Nat} {ps:List (Nat×Value)} (h:aG P t len ps H=some (v,H')):Bs H H':=by
 unfold aG at h
 (repeat' split at h)<;>first|(cases h;done)|(simp only [Option.some.injEq,Prod.mk.injEq]at h;obtain⟨_,rfl⟩:=h;exact⟨rfl,rfl⟩)
theorem DO {t:TypeId} (h:gv P t x y H=some (v,H')):Bs H H':=by
 unfold gv at h
 (repeat' split at h)<;>first|(cases h;done)|(simp only [Option.some.injEq,Prod.mk.injEq]at h;obtain⟨_,rfl⟩:=h;exact⟨rfl,rfl⟩)
theorem DP {e:TypeId} {s l o n c m:Nat} {b:LB} {new:List Value} (h:nX P e s l o n c b m new H=some (v,H')):Bs H H':=by
 unfold nX at h
 (repeat' split at h)<;>first|(cases h;done)|(simp only [Option.some.injEq,Prod.mk.injEq]at h;obtain⟨_,rfl⟩:=h;exact⟨rfl,rfl⟩)
theorem xd {t u:TypeId} (h:eG P t u x y H=some (v,H')):Bs H H':=by
 unfold eG at h
 (repeat' split at h)<;>first|(cases h;done)|exact DP h|(simp only [Option.some.injEq,Prod.mk.injEq]at h;obtain⟨_,rfl⟩:=h;exact⟨rfl,rfl⟩)
theorem ub {b:Builtin} {ts:List TypeId} {args:List Value} (h:aI P b ts args H=some (v,H')):Bs H H':=by
 unfold aI at h
 (repeat' split at h)<;>first|(cases h;done)|exact xd h|(simp only [Option.some.injEq,Prod.mk.injEq]at h;obtain⟨_,rfl⟩:=h;exact⟨rfl,rfl⟩)
theorem xe (hT:C3 T) {f:Value} {args:List Value} (h:bE P T f args H=some (v,H')):Bs H H':=by
 unfold bE at h;split at h
 ·exact hT _ _ _ _ _ h
 ·cases h
theorem mL (hT:C3 T) (h:bS P T o fr H=some (v,H')):Bs H H':=by
 unfold bS at h;split at h
 all_goals (repeat' split at h)
 all_goals first
  |(cases h;done)
  |exact ub h
  |exact xe hT h
  |exact nT h
  |exact DO h
  |(simp only [Option.some.injEq,Prod.mk.injEq]at h;obtain⟨_,rfl⟩:=h;exact⟨rfl,rfl⟩)
  |(obtain⟨u,hu,e⟩:=Option.map_eq_some_iff.1 h;simp only [Prod.mk.injEq]at e;obtain⟨_,rfl⟩:=e;first|exact Bs.refl _|exact zU hu)
theorem mM {s d:TypeId} (h:bM P s d x H=some (v,H')):Bs H H':=by
 unfold bM at h
 (repeat' split at h)<;>first|(cases h;done)|(simp only [Option.some.injEq,Prod.mk.injEq]at h;obtain⟨_,rfl⟩:=h;exact⟨rfl,rfl⟩)
theorem DQ {s d:TypeId} (h:fB P s d x H=some (v,H')):Bs H H':=by
 unfold fB at h
 (repeat' split at h)<;>first|(cases h;done)|(simp only [Option.some.injEq,Prod.mk.injEq]at h;obtain⟨_,rfl⟩:=h;exact⟨rfl,rfl⟩)
theorem xf {s d:TypeId} (h:db P s d x H=some (v,H')):Bs H H':=by
 unfold db at h;split at h
 ·rename_i r hr;injection h with h;subst h;exact mM hr
 ·exact DQ h
theorem DR (hT:C3 T) (h:fD P T o fr H=some (v,H')):Bs H H':=by
 unfold fD at h;split at h
 ·split at h
  ·rename_i r hr;injection h with h;subst h;exact xf hr
  ·exact mL hT h
 ·exact mL hT h
theorem lN (hT:C3 T) {all:Array Oper} : ∀ {os:List Oper} {fr:Fr} {H:LH} {fr':Fr} {H':LH},cL P T N all os fr H=some (fr',H')->Bs H H'
 | [],fr,H,fr',H',h=>by
  simp only [cL,Option.some.injEq,Prod.mk.injEq]at h;obtain⟨_,rfl⟩:=h;exact Bs.refl _
 |o::os,fr,H,fr',H',h=>by
  unfold cL at h;split at h
  ·split at h
   ·rename_i v H1 ho;split at h
    ·exact(DR hT ho).trans (lN hT h)
    ·cases h
   ·cases h
  ·split at h
   ·exact lN hT h
   ·cases h
  ·cases h
theorem xg (hT:C3 T) (h:bH P T o fr H0 H=some (v,H')):Bs H H':=by
 unfold bH at h;split at h
 ·cases h
 ·split at h
  ·split at h
   ·obtain⟨u,_,e⟩:=Option.map_eq_some_iff.1 h;simp only [Prod.mk.injEq]at e;obtain⟨_,rfl⟩:=e;exact Bs.refl _
   ·cases h
  ·cases h
  ·obtain⟨u,_,e⟩:=Option.map_eq_some_iff.1 h;simp only [Prod.mk.injEq]at e;obtain⟨_,rfl⟩:=e;exact Bs.refl _
  ·cases h
 ·split at h
  ·rename_i r hr;injection h with h;subst h;exact mM hr
  ·exact mL hT h
 ·exact mL hT h
theorem pO (hT:C3 T) {L:Loud} {all:Array Oper} : ∀ {os:List Oper} {fr:Fr} {H:LH} {fr':Fr} {H':LH},cQ P L T N all H0 os fr H=some (fr',H')->Bs H H'
 | [],fr,H,fr',H',h=>by
  simp only [cQ,Option.some.injEq,Prod.mk.injEq]at h;obtain⟨_,rfl⟩:=h;exact Bs.refl _
 |o::os,fr,H,fr',H',h=>by
  unfold cQ at h;split at h
  ·exact lN hT h
  ·split at h
   ·cases h
   ·split at h
    ·split at h
     ·split at h
      ·rename_i v H1 ho;exact(xg hT ho).trans (pO hT h)
      ·cases h
     ·exact pO hT h
     ·cases h
    ·cases h
theorem DS [Cvt] (hT:C3 T) {o:Oper} {v:Value} (h:cY P T o fr H=some (v,H')):Bs H H':=by
 unfold cY at h;split at h
 ·split at h
  ·exact mM h
  ·cases h
 ·exact mL hT h
theorem kv [Cvt] (hT:C3 T) {all:Array Oper} {prs:List (Nat×Nat)} : ∀ {os:List Oper} {k:Nat} {old:Nat->Fr×LH} {fr:Fr} {H:LH} {fr':Fr} {H':LH},aY P T N all prs k old os fr H=some (fr',H')->Bs H H'
 | [],k,old,fr,H,fr',H',h=>by
  simp only [aY,Option.some.injEq,Prod.mk.injEq]at h;obtain⟨_,rfl⟩:=h;exact Bs.refl _
 |o::os,k,old,fr,H,fr',H',h=>by
  unfold aY at h;split at h
  ·split at h
   ·rename_i v H1 ho;split at h
    ·split at h
     ·exact(DS hT ho).trans (kv hT h)
     ·cases h
    ·cases h
   ·cases h
  ·split at h
   ·split at h
    ·exact kv hT h
    ·cases h
   ·cases h
  ·cases h
theorem mN (hT:C3 T) {L:Loud} {fn:Func} : ∀ {n:Nat} {k:List Item} {fr:Fr} {H:LH} {v:Value} {H':LH},run P L T fn n k fr H=some (v,H')->Bs H H'
 |0,_,_,_,_,_,h=>by cases h
 |n+1,k,fr,H,v,H',h=>by
  unfold run at h;split at h
  all_goals first
   |(cases h;done)
   |(obtain⟨u,_,e⟩:=Option.map_eq_some_iff.1 h;simp only [Prod.mk.injEq]at e;obtain⟨_,rfl⟩:=e;exact Bs.refl _)
   |exact mN hT h
   |skip
  all_goals (repeat' split at h)
  all_goals first
   |(cases h;done)
   |exact mN hT h
   |skip
  ·rename_i fr1 H1 ho;exact(lN hT ho).trans (mN hT h)
  ·rename_i fr1 H1 ho;refine Bs.trans (H1:=H1) ?_ (mN hT h);unfold dO at ho;split at ho
   ·exact pO hT ho
   ·letI:Cvt:=⟨L.cv⟩;exact kv hT ho
theorem zV {r:Value×LH} (h:Bs H r.2):Bs H (trunc H r).2:=by
 unfold trunc;split
 ·exact Bs.refl _
 ·exact h
theorem rY {E:Env} (hE: ∀f s,E.ext f=some s-> ∀args H v H',s args H=some (v,H')->Bs H H'): ∀n,C3 (cz P E n)
 |0,_,_,_,_,_,h=>by cases h
 |n+1,f,args,H,v,H',h=>by
  unfold cz at h;split at h
  ·rename_i s hs;exact hE f s hs args H v H' h
  ·split at h
   ·split at h
    ·split at h
     ·obtain⟨r,hr,e⟩:=Option.map_eq_some_iff.1 h;have:=zV (H:=H) (r:=r) (mN (rY hE n) hr);rw [e]at this;exact this
     ·cases h
    ·cases h
   ·cases h
theorem M9 {E:Env} (hE: ∀f s,E.ext f=some s-> ∀args H v H',s args H=some (v,H')->Bs H H') {f:FuncId} {args:List Value} (h:LC P E f args H=some (v,H')):Bs H H':=by
 obtain⟨k,hk⟩:=gZ.1 h;exact rY hE k f args H v H' hk
end
end Go.Lg
