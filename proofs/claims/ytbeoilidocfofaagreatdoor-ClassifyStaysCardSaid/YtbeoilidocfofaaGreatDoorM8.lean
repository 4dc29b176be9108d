/-
  Texts joined, part 8: ObMedP, ClPlain, ClStay, ClStayL, DoorJ.
-/
import Derived.Test.YtbeoilidocfofaaGreatDoorM7
set_option linter.all false
set_option maxRecDepth 100000
namespace Tg.Ob
theorem yj {s x:List UInt8} (h:1445<=s.length):Tg.Sn.kind (s.take 1445++x)=Tg.Sn.kind s:=by
 have e:(s.take 1445++x).take 1445=s.take 1445:=by
  rw [List.take_append_of_le_length (by rw [List.length_take];omega),List.take_take,Nat.min_self]
 unfold Tg.Sn.kind;rw [e]
theorem we {me st:Int} {l:List Tg.Hd.Hdr} {s x:List UInt8} (h:1445<=s.length):ofP me st l (s.take 1445++x)=ofP me st l s:=by
 have h1:judgeP me st l (s.take 1445++x)=judgeP me st l s:=by
  unfold judgeP;rw [yj h]
 have h2:at31 ((s.take 1445++x).length:Nat)=at31 (s.length:Nat):=by
  unfold at31;rw [List.length_append,List.length_take];have e1: ¬(((min 1445 s.length+x.length:Nat):Int)<0):=by omega
  have e2: ¬(((s.length:Nat):Int)<0):=by omega
  rw [if_neg e1,if_neg e2];split<;>split<;>omega
 unfold ofP;rw [h1,h2]
end Tg.Ob
namespace Go.Proofs.YtbeoilidocfofaaGreatDoor.Sn
open Go.Lg Go.Tg Tg.Cl Tg.Ob
section
variable {c:Cas} {s t:List UInt8} {j:Bool}
theorem kM (t:List UInt8) (D:Nat) (en:Bool):Jx.Lx.ofP t 1445 D en=
  (if(Jx.Lx.wholeP (t.take 1445) D (en&&decide ((t.length:Int)<1445))).verdict≠0 then⟨(Jx.Lx.wholeP (t.take 1445) D (en&&decide ((t.length:Int)<1445))).verdict,(Jx.Lx.wholeP (t.take 1445) D (en&&decide ((t.length:Int)<1445))).reason,if Jx.Lx.atP (Jx.Lx.wholeP (t.take 1445) D (en&&decide ((t.length:Int)<1445)))<Jx.Lx.snAt t.length then Jx.Lx.snAt t.length else Jx.Lx.atP (Jx.Lx.wholeP (t.take 1445) D (en&&decide ((t.length:Int)<1445)))⟩
   else if(1445:Int)<=(t.length:Int)then⟨2,Tg.Lx.L.rLimit,1445⟩else⟨(Jx.Lx.wholeP (t.take 1445) D (en&&decide ((t.length:Int)<1445))).verdict,(Jx.Lx.wholeP (t.take 1445) D (en&&decide ((t.length:Int)<1445))).reason,Jx.Lx.atP (Jx.Lx.wholeP (t.take 1445) D (en&&decide ((t.length:Int)<1445)))⟩):=by
 unfold Jx.Lx.ofP;rw [show Jx.Lx.lim 1445=1445 by decide]
 have:t.take (if(1445:Int)<t.length then(1445:Int)else t.length).toNat=t.take 1445:=by
  split
  ·rfl
  ·rw [List.take_of_length_le (by omega),List.take_of_length_le (by omega)]
 rw [this]
theorem s6 (hk:c.k=1445) (h1:1445<=s.length) (h2:1445<=t.length) (h:s.take 1445=t.take 1445) (a b:Bool):(jV c s a).v≠0/\(jV c s a).v=(jV c t b).v/\(jV c s a).r=(jV c t b).r/\(jV c s a).m=(jV c t b).m:=by
 unfold jV;rw [hk,kM,kM];have q1:decide ((s.length:Int)<1445)=false:=decide_eq_false (by omega);have q2:decide ((t.length:Int)<1445)=false:=decide_eq_false (by omega);rw [q1,q2,Bool.and_false,Bool.and_false,h];have g1:(1445:Int)<=(s.length:Int):=by omega
 have g2:(1445:Int)<=(t.length:Int):=by omega
 by_cases hv:(Jx.Lx.wholeP (t.take 1445) (Jx.clamp c.d).toNat false).verdict≠0
 ·simp only [if_pos hv];refine⟨hv,?_,?_,?_⟩<;>first|rfl|trivial
 ·simp only [if_neg hv,if_pos g1,if_pos g2];refine⟨by decide,?_,?_,?_⟩<;>first|rfl|trivial
theorem Gi (hk:c.k=1445):(jV c s true).v≠0:=by
 by_cases h1:1445<=s.length
 ·exact(s6 hk h1 h1 rfl true true).1
 ·unfold jV;rw [hk,kM];have q1:decide ((s.length:Int)<1445)=true:=decide_eq_true (by omega);rw [q1,Bool.and_true]
  have hv:(Jx.Lx.wholeP (s.take 1445) (Jx.clamp c.d).toNat true).verdict≠0:=by
   unfold Jx.Lx.wholeP;rw [if_pos rfl];exact Tg.Lx.L.fin_verdict _
  simp only [if_pos hv];exact hv
theorem Gj (l:List Tg.Hd.Hdr):(gQ j l s).1≠0:=by
 unfold gQ;split
 ·exact(by decide:(1:Int)≠0)
 ·exact(by decide:(2:Int)≠0)
theorem jW (hl:c.lg=true) {en:Bool} (hr:eB s.length en=true):(bf j c s en).v≠0:=by
 unfold bf;rw [if_neg (by rw [hr];decide),if_pos hl];exact Gj _
theorem Gk {me st:Int} {l:List Tg.Hd.Hdr} (h1:1445<=s.length) (h2:1445<=t.length) (h:s.take 1445=t.take 1445):ofP me st l s=ofP me st l t:=by
 have e1:=we (me:=me) (st:=st) (l:=l) (x:= []) h1;have e2:=we (me:=me) (st:=st) (l:=l) (x:= []) h2;rw [<-e1,<-e2,h]
theorem yk {l:List Tg.Hd.Hdr} (h:s.take 1445=t.take 1445):gQ j l s=gQ j l t:=by
 unfold gQ;rw [h]
theorem eX {n:Int} (h:1445<=n) {en:Bool} :eB n en=true:=by
 unfold eB;rw [decide_eq_true h,Bool.or_true]
theorem uX (h1:1445<=s.length) (h2:1445<=t.length) (h:s.take 1445=t.take 1445) (a b:Bool):bf j c s a=bf j c t b:=by
 unfold bf;rw [eX (by omega),eX (by omega),Gk h1 h2 h,yk h,h]
theorem eY (a:Jud):fL a a=true:=by simp [fL]
theorem CT {a b:Jud} (h1:a.v=b.v) (h2:a.r=b.r) (h3:a.m=b.m):fL a b=true:=by simp [fL,h1,h2,h3]
theorem jX (hk:c.k=1445) (h1:1445<=s.length) (h2:1445<=t.length) (h:s.take 1445=t.take 1445) (a b:Bool):(bh j c s a).v≠0/\fL (bh j c s a) (bh j c t b)=true:=by
 unfold bh;rw [uX h1 h2 h a b,eX (by omega),eX (by omega)];by_cases g1:(bT c).v≠0
 ·simp only [if_pos g1];exact⟨g1,eY _⟩
 ·simp only [if_neg g1];by_cases g2:(bf j c t b).v≠0
  ·simp only [if_pos g2];exact⟨g2,eY _⟩
  ·simp only [if_neg g2]
   have hl:c.lg=false:=by
    cases hc:c.lg with
    |false=>rfl
    |true=>exact absurd (jW hc (eX (by omega))) g2
   rw [hl,if_neg (by decide),if_neg (by decide)];have:=s6 hk h1 h2 h a b;exact⟨this.1,CT this.2.1 this.2.2.1 this.2.2.2⟩
theorem Gl (hk:c.k=1445):(bh j c s true).v≠0:=by
 unfold bh;by_cases g1:(bT c).v≠0
 ·rw [if_pos g1];exact g1
 ·rw [if_neg g1];by_cases g2:(bf j c s true).v≠0
  ·rw [if_pos g2];exact g2
  ·rw [if_neg g2]
   have hl:c.lg=false:=by
    cases hc:c.lg with
    |false=>rfl
    |true=>exact absurd (jW hc rfl) g2
   rw [hl,if_neg (by simp [eB])];exact Gi hk
theorem kN {i:Bool} (h1:s.length<1445) (hv:(bh j c s false).v≠0): ∀(t:List UInt8) (b:Bool),bh i c t b=bh j c s false:=by
 have hr:eB s.length false=false:=by
  unfold eB;rw [Bool.false_or];exact decide_eq_false (by omega)
 have g1:(bT c).v≠0:=by
  intro g1;apply hv;unfold bh bf;rw [hr];simp [g1,noJ]
 intro t b;unfold bh;rw [if_pos g1,if_pos g1]
theorem s7 (J:List UInt8->Bool) (hk:c.k=1445) (s t:List UInt8):
  (bh (J ((s++t).take 1445)) c (s++t) true).v≠0/\(1445<=s.length->(bh (J (s.take 1445)) c s false).v≠0)/\
  ((bh (J (s.take 1445)) c s false).v≠0->fL (bh (J (s.take 1445)) c s false) (bh (J ((s++t).take 1445)) c (s++t) false)=true/\fL (bh (J (s.take 1445)) c s false) (bh (J ((s++t).take 1445)) c (s++t) true)=true)/\
  ((bh (J ((s++t).take 1445)) c (s++t) false).v≠0->fL (bh (J ((s++t).take 1445)) c (s++t) false) (bh (J ((s++t).take 1445)) c (s++t) true)=true):=by
 refine⟨Gl hk,fun h=>(jX hk h h rfl false false).1,fun hv=>?_,fun hv=>?_⟩
 ·by_cases h:1445<=s.length
  ·have e:(s++t).take 1445=s.take 1445:=List.take_append_of_le_length h;have h2:1445<=(s++t).length:=by rw [List.length_append];omega
   rw [e];exact⟨(jX hk h h2 e.symm false false).2,(jX hk h h2 e.symm false true).2⟩
  ·rw [kN (i:=J ((s++t).take 1445)) (by omega) hv (s++t) false,kN (i:=J ((s++t).take 1445)) (by omega) hv (s++t) true];exact⟨eY _,eY _⟩
 ·by_cases h:1445<=(s++t).length
  ·exact(jX hk h h rfl false true).2
  ·rw [kN (i:=J ((s++t).take 1445)) (by omega) hv (s++t) true];exact eY _
end
def CU:List Tg.Hd.Hdr:= [([67,111,110,116,101,110,116,45,84,121,112,101],[116,101,120,116,47,104,116,109,108])]
def ei:Cas:=⟨false,1445,9,[],true,true,0,200,CU,false⟩
theorem Ph:(bh false ei [120,61,49,59] true).v=1:=by decide+kernel
theorem Pj:(bh false ei [60,112,62] true).v=2:=by decide+kernel
theorem Pk:(bh false ei [120,61,49,59] false).v=0:=by decide+kernel
theorem Gm {i j:Bool} {c:Cas} (h:c.lg=false) {s:List UInt8} {en:Bool} :bh i c s en=bh j c s en:=by
 have:bf i c s en=bf j c s en:=by
  unfold bf;rw [h];rfl
 unfold bh;rw [this]
section
variable {H H':LH} {N:Nat} {s t u:List UInt8} {v w:Value} {c:Cas} {n:Int} {en m:Bool}
theorem qN:Tg.Mi.SmH ei.h:=⟨by decide,by simp [ei,CU]⟩
theorem uY {a b:List UInt8} :bG Tryz.prog 58 [str [],str []] [(0,str a),(1,str b)]=some [str a,str b]:=by
 rw [aB (o:=0) (n:=1) (g:=false) (by simp) rfl (by simp) (by simp),aB (o:=1) (n:=1) (g:=false) (by simp) rfl (by simp) (by simp)];simp
theorem uZ {m:Int} {a:Option Addr} {x y:Nat} :bG Tryz.prog 28 [.int .i64 0,.slice none 0 0] [(0,.int .i64 m),(1,.slice a x y)]=some [.int .i64 m,.slice a x y]:=by
 rw [aB (o:=0) (n:=1) (g:=false) (by simp) rfl (by simp) (by simp),aB (o:=1) (n:=1) (g:=false) (by simp) rfl (by simp) (by simp)];simp
theorem u3:bG Tryz.prog 23 [.bool false,.int .i64 0,.int .i64 0] [(1,.int .i64 1445),(2,.int .i64 9)]=some [.bool false,.int .i64 1445,.int .i64 9]:=by
 rw [aB (o:=1) (n:=1) (g:=false) (by simp) rfl (by simp) (by simp),aB (o:=2) (n:=1) (g:=false) (by simp) rfl (by simp) (by simp)];simp
theorem u4:bG Tryz.prog 25 [str [],.bool false,.bool false,.int .i64 0] [(1,.bool true),(2,.bool true)]=some [str [],.bool true,.bool true,.int .i64 0]:=by
 rw [aB (o:=1) (n:=1) (g:=false) (by simp) rfl (by simp) (by simp),aB (o:=2) (n:=1) (g:=false) (by simp) rfl (by simp) (by simp)];simp
theorem u5 {a:Option Addr} {x y:Nat} :bG Tryz.prog 30 [.bool false,.int .i64 0,.int .i64 0,str [],.bool false,.bool false,.int .i64 0,.int .i64 0,.slice none 0 0,.bool false] [(0,.agg #[.bool false,.int .i64 1445,.int .i64 9]),(1,.agg #[str [],.bool true,.bool true,.int .i64 0]),(2,.agg #[.int .i64 200,.slice a x y])]=some [.bool false,.int .i64 1445,.int .i64 9,str [],.bool true,.bool true,.int .i64 0,.int .i64 200,.slice a x y,.bool false]:=by
 rw [hG (o:=0) (n:=3) (g:=true) (by simp) rfl (by simp)];show bG _ _ [.bool false,.int .i64 1445,.int .i64 9,str [],.bool false,.bool false,.int .i64 0,.int .i64 0,.slice none 0 0,.bool false] _=_;rw [hG (o:=3) (n:=4) (g:=true) (by simp) rfl (by simp)];show bG _ _ [.bool false,.int .i64 1445,.int .i64 9,str [],.bool true,.bool true,.int .i64 0,.int .i64 0,.slice none 0 0,.bool false] _=_;rw [hG (o:=7) (n:=2) (g:=true) (by simp) rfl (by simp)];show bG _ _ [.bool false,.int .i64 1445,.int .i64 9,str [],.bool true,.bool true,.int .i64 0,.int .i64 200,.slice a x y,.bool false] _=_;simp
abbrev Tb:LB:=⟨[str [67,111,110,116,101,110,116,45,84,121,112,101],str [116,101,120,116,47,104,116,109,108]],58,true⟩
abbrev Tc:LB:=⟨[.bool false,.int .i64 0,.int .i64 0,str [],.bool false,.bool false,.int .i64 0,.int .i64 0,.slice none 0 0,.bool false],30,true⟩
theorem qO: ∃v' H',LC Tryz.prog EJ 16 [] H=some (casv ei v',H')/\H.le H'/\bW H' v' ei.h/\Bs H H':=by
 obtain⟨r,h,e⟩:=aE (P:=Tryz.prog) (E:=EJ) (f:=16) rfl Tryz.func16 rfl (Nat.le_of_ble_eq_true rfl) (by decide) (by kernel_rfl) (H:=H) (args:= []) (Q:=fun r=>r=(casv ei (sl (H.n+1) 1 1),((H.new Tc).new Tb).set H.n ⟨[.bool false,.int .i64 1445,.int .i64 9,str [],.bool true,.bool true,.int .i64 0,.int .i64 200,sl (H.n+1) 1 1,.bool false],30,true⟩)) (by
  simp [uY,uZ,u3,u4,u5,OE,ei])
 subst e;rw [dF (by simp [ei,ao,az,aA])]at h;refine⟨_,_,h,le_refl.new.new.set (Nat.le_refl _),?_,⟨by simp,by simp⟩⟩;refine .inr ⟨H.n+1,0,1,rfl,fun _=>⟨Tb,by rw [ah (by omega),show H.n+1=(H.new Tc).n from rfl,ak],by show H.n+1<H.n+1+1;omega,fun i hi=>?_⟩⟩;have:i=0:=by simp [ei,CU]at hi;omega
 subst this;exact⟨by decide,rfl,rfl,rfl⟩
theorem yl (ht:cL H) (hm:eA H):LC Tryz.prog EJ 11 [] H=some (.bool true,H):=by
 refine ag rfl Tryz.func11 rfl (Nat.le_of_ble_eq_true rfl) (by decide) (by kernel_rfl) rfl ?_;obtain⟨v1,H1,a1,l1,r1,b1⟩:=qO (H:=H);obtain⟨v2,H2,a2,l2,r2,b2⟩:=qO (H:=H1);obtain⟨v3,H3,a3,l3,r3,b3⟩:=qO (H:=H2);have b02:=b1.trans b2;have b03:=b02.trans b3;have e1:=nH (s:= [120,61,49,59]) r1 qN (cJ ht b1) (hm.bs b1) (by decide);have e2:=nH (s:= [60,112,62]) r2 qN (cJ ht b02) (hm.bs b02) (by decide);have e3:=CR (s:= [120,61,49,59]) (en:=false) r3 qN (cJ ht b03) (hm.bs b03) (by decide);rw [Gm (j:=false) rfl]at e1 e2 e3;have h1:=Ph;have h2:=Pj;have h3:=Pk;generalize bh false ei [120,61,49,59] true=J1 at*;generalize bh false ei [60,112,62] true=J2 at*;generalize bh false ei [120,61,49,59] false=J3 at*;obtain⟨x1,y1,z1,w1⟩:=J1;obtain⟨x2,y2,z2,w2⟩:=J2;obtain⟨x3,y3,z3,w3⟩:=J3;dsimp only at h1 h2 h3;subst h1 h2 h3;have hle:=l1.trans (l2.trans l3);generalize casv ei v1=c1 at*;generalize casv ei v2=c2 at*;generalize casv ei v3=c3 at*;simp [a1,e1,a2,e2,a3,e3]
 try exact hle
end
def bS (c:Cas):Cas:=⟨c.lg,1445,c.d,c.u.take 80,c.a1,c.a2,c.me,c.st,Tg.Hd.few c.h 8,c.kn⟩
theorem ym (c:Cas):yh (bS c)=bS c:=by
 unfold yh bS;rw [Tg.Hd.few_few,List.take_take];rfl
abbrev jz:LB:=⟨[.int .i64 0,str [],.int .i64 0,.bool false],38,true⟩
section
variable {H H':LH} {N:Nat} {s t u:List UInt8} {v w:Value} {c:Cas} {n b:Int} {en m:Bool}
theorem Gn (l:List Tg.Hd.Hdr):(Tg.Hd.few l 8).length<=9223372036854775807:=by have:=(Tg.Hd.few_sm l).1;omega
theorem gR (hr:bW H v (bS c).h): ∃v' H',LC Tryz.prog EJ 5 [casv (bS c) v] H=some (casv (bS c) v',H')/\H.le H'/\bW H' v' (bS c).h/\Bs H H':=by
 obtain⟨v',H',e,l,r,b⟩:=s5 hr (Gn _);rw [ym]at e r;exact⟨v',H',e,l,r.row,b⟩
set_option maxHeartbeats 4000000 in
theorem stays36 (hr:bW H v c.h) (hl:c.h.length<=9223372036854775807) (h0:0<=b) (h1:b<=65535) (ht:cL H) (hm:eA H): ∃H',LC Tryz.prog EJ 3 [casv c v,bodyv b s,str t] H=some (.bool true,H'):=by
 refine⟨H,?_⟩;refine ag rfl Tryz.func3 rfl (Nat.le_of_ble_eq_true rfl) (by decide) (by kernel_rfl) rfl ?_;have hc:=ba hr;obtain⟨H1,hH1⟩: ∃H1,H1=(H.new ⟨[.bool c.lg,.int .i64 c.k,.int .i64 c.d,str c.u,.bool c.a1,.bool c.a2,.int .i64 c.me,.int .i64 c.st,v,.bool c.kn],30,true⟩).new ⟨[.int .u16 b,str s],33,true⟩:=⟨_,rfl⟩
 have le1:H.le H1:=by rw [hH1];exact le_refl.new.new
 have n1:H1.n=H.n+1+1:=by rw [hH1];rfl
 have g1:H1.get H.n=some ⟨[.bool c.lg,.int .i64 c.k,.int .i64 c.d,str c.u,.bool c.a1,.bool c.a2,.int .i64 c.me,.int .i64 c.st,v,.bool c.kn],30,true⟩:=by rw [hH1,aa (by simp),ak]
 have j1:H1.get (H.n+1)=some ⟨[.int .u16 b,str s],33,true⟩:=by rw [hH1];exact ak
 have bs1:Bs H H1:=by rw [hH1];exact⟨by simp,by simp⟩
 obtain⟨v2,H2,e2,le2,hr2,bs2⟩:=s5 (hr.keep le1.1 le1.2) hl;have e3:=fun H:LH=>Co (H:=H) (s:=t) (k:=60) (by decide);simp only [show((60:Int).toNat)=60 from rfl]at e3;have hc2:=ba hr2.row;have n2:=le2.1;have g2:=(le2.2 H.n (by omega)).trans g1;have j2:=(le2.2 (H.n+1) (by omega)).trans j1;obtain⟨H3,hH3⟩: ∃H3,H3=H2.set H.n ⟨[.bool (bS c).lg,.int .i64 1445,.int .i64 (bS c).d,str (bS c).u,.bool (bS c).a1,.bool (bS c).a2,.int .i64 (bS c).me,.int .i64 (bS c).st,v2,.bool (bS c).kn],30,true⟩:=⟨_,rfl⟩
 have g3:H3.get H.n=some ⟨[.bool (bS c).lg,.int .i64 1445,.int .i64 (bS c).d,str (bS c).u,.bool (bS c).a1,.bool (bS c).a2,.int .i64 (bS c).me,.int .i64 (bS c).st,v2,.bool (bS c).kn],30,true⟩:=by rw [hH3,aw]
 have j3:H3.get (H.n+1)=some ⟨[.int .u16 b,str s],33,true⟩:=by rw [hH3,ah (by omega),j2]
 have n3:H3.n=H2.n:=by rw [hH3];rfl
 have bs3:Bs H2 H3:=by rw [hH3];exact⟨by simp,by simp⟩
 have le3:H.le H3:=by rw [hH3];exact(le1.trans le2).set (Nat.le_refl _)
 have e4:=fun H:LH=>Gh (H:=H) (s:=s) h0 h1;have hr3o:gi H1.n H3 v2 (bS c).h:=bA.keep hr2 (by rw [n3];exact Nat.le_refl _) (fun k hk _ _=>by rw [hH3,ah (by omega)]);have hr3:=hr3o.row;obtain⟨v4,H4,e5,le4,hr4,bs4⟩:=gR hr3;have n4:=le4.1;obtain⟨v5,H5,e6,le5,hr5,bs5⟩:=gR (hr3.keep le4.1 le4.2);have n5:=le5.1;obtain⟨v6,H6,e7,le6,hr6,bs6⟩:=gR ((hr3.keep le4.1 le4.2).keep le5.1 le5.2);have n6:=le6.1;have g4:=(le4.2 H.n (by omega)).trans g3;have g5:=(le5.2 H.n (by omega)).trans g4;have g6:=(le6.2 H.n (by omega)).trans g5;have hsm:Tg.Mi.SmH (bS c).h:=Tg.Hd.few_sm c.h;have b3:=bs1.trans (bs2.trans bs3);have b4:=b3.trans bs4;have b5:=b4.trans bs5;have b6:=b5.trans bs6;have hlB:(dL b s).length<=1590:=by unfold dL;simp;omega
 have hlT:(t.take 60).length<=60:=by rw [List.length_take];omega
 have e8:=CR (s:=dL b s) (en:=false) hr4 hsm (cJ ht b4) (hm.bs b4) (by omega);have e9:=CR (s:=dL b s++t.take 60) (en:=false) hr5 hsm (cJ ht b5) (hm.bs b5) (by rw [List.length_append];omega);have e10:=nH (s:=dL b s++t.take 60) hr6 hsm (cJ ht b6) (hm.bs b6) (by rw [List.length_append];omega);rw [b4.1,b4.2]at e8;rw [b5.1,b5.2]at e9;rw [b6.1,b6.2]at e10;obtain⟨p1,p2,p3,p4⟩:=s7 (c:=bS c) (dk H.base H.ng) rfl (dL b s) (t.take 60);have cat: ∀T,bJ Tryz.prog .add T (str (dL b s)) (str (t.take 60))=some (str (dL b s++t.take 60)):=fun T=>mK (by omega);have p2':(1445:Int)<=((dL b s).length:Int)->(bh (dk H.base H.ng ((dL b s).take 1445)) (bS c) (dL b s) false).v≠0:=fun h=>p2 (by omega);clear p2 hlB hlT;generalize dL b s=B at*;generalize t.take 60=t2 at*;generalize B++t2=B2 at*;generalize bh (dk H.base H.ng (B.take 1445)) (bS c) B false=J1 at*;generalize bh (dk H.base H.ng (B2.take 1445)) (bS c) B2 false=J2 at*;generalize bh (dk H.base H.ng (B2.take 1445)) (bS c) B2 true=J3 at*;have hle6:=le3.trans (le4.trans (le5.trans le6));have s12:=fun H:LH=>uW (H:=H) (a:=J1) (b:=J2);have s13:=fun H:LH=>uW (H:=H) (a:=J1) (b:=J3);have s23:=fun H:LH=>uW (H:=H) (a:=J2) (b:=J3);clear hr hr2 hr3 hr3o hr4 hr5 hr6 hsm;obtain⟨lg,k,d,u,a1,a2,me,st,l,kn⟩:=c;dsimp only [bS,yh]at*;generalize u.take 80=u2 at*;have g7:=(aa (b:=jz) (show H.n≠H6.n by omega)).trans g6;have g8:=(aa (b:=jz) (show H.n≠(H6.new jz).n by rw [aI];omega)).trans g7;have g9:=(aa (b:=jz) (show H.n≠((H6.new jz).new jz).n by rw [aI,aI];omega)).trans g8;obtain⟨H7,hH7⟩: ∃H7,H7=((H6.new jz).new jz).new jz:=⟨_,rfl⟩
 have x1:H7.get H6.n=some jz:=by rw [hH7,aa (by rw [aI,aI];omega),aa (by rw [aI];omega),ak]
 have x2:H7.get (H6.n+1)=some jz:=by rw [hH7,aa (by rw [aI,aI];omega),show H6.n+1=(H6.new jz).n from rfl,ak]
 have x3:H7.get (H6.n+1+1)=some jz:=by rw [hH7,show H6.n+1+1=((H6.new jz).new jz).n from rfl,ak]
 have le7:H.le H7:=by rw [hH7];exact hle6.new.new.new
 have n7:H7.n=H6.n+1+1+1:=by rw [hH7];rfl
 have y1:(H6.n=H6.n+1)=False:=eq_false (by omega);have y2:(H6.n=H6.n+1+1)=False:=eq_false (by omega);have y3:(H6.n+1=H6.n+1+1)=False:=eq_false (by omega);have y4:(H6.n+1=H6.n)=False:=eq_false (by omega);have y5:(H6.n+1+1=H6.n)=False:=eq_false (by omega);have y6:(H6.n+1+1=H6.n+1)=False:=eq_false (by omega);obtain⟨H8,hH8⟩: ∃H8,H8=((H7.set H6.n ⟨[.int .i64 J1.v,str J1.r,.int .i64 J1.n,.bool J1.m],38,true⟩).set (H6.n+1) ⟨[.int .i64 J2.v,str J2.r,.int .i64 J2.n,.bool J2.m],38,true⟩).set (H6.n+1+1) ⟨[.int .i64 J3.v,str J3.r,.int .i64 J3.n,.bool J3.m],38,true⟩:=⟨_,rfl⟩
 have z1:H8.get H6.n=some ⟨[.int .i64 J1.v,str J1.r,.int .i64 J1.n,.bool J1.m],38,true⟩:=by rw [hH8,ah (by omega),ah (by omega),aw]
 have z2:H8.get (H6.n+1)=some ⟨[.int .i64 J2.v,str J2.r,.int .i64 J2.n,.bool J2.m],38,true⟩:=by rw [hH8,ah (by omega),aw]
 have z3:H8.get (H6.n+1+1)=some ⟨[.int .i64 J3.v,str J3.r,.int .i64 J3.n,.bool J3.m],38,true⟩:=by rw [hH8,aw]
 have le8:H.le H8:=by rw [hH8];exact((le7.set (by omega)).set (by omega)).set (by omega)
 have b8:Bs H H8:=b6.trans (by rw [hH8,hH7];exact⟨by simp,by simp⟩);have lv:=yl (cJ ht b8) (hm.bs b8);have hsp:aV [.bool lg,.int .i64 k,.int .i64 d,str u,.bool a1,.bool a2,.int .i64 me,.int .i64 st,v,.bool kn] 0 [.bool lg,.int .i64 k,.int .i64 d,str u2,.bool a1,.bool a2,.int .i64 me,.int .i64 st,v2,.bool kn]= [.bool lg,.int .i64 k,.int .i64 d,str u2,.bool a1,.bool a2,.int .i64 me,.int .i64 st,v2,.bool kn]:=rfl;have g10:=g9;rw [<-hH7]at g10;generalize fL J1 J2=S12 at*;generalize fL J1 J3=S13 at*;generalize fL J2 J3=S23 at*;obtain⟨q1,r1,m1,w1⟩:=J1;obtain⟨q2,r2,m2,w2⟩:=J2;obtain⟨q3,r3,m3,w3⟩:=J3;dsimp only at*;have f3:=eq_false p1;by_cases a1':q1=0
 ·have hB:=eq_false (show¬(1445:Int)<=(B.length:Int) from fun h=>p2' h a1');subst a1';by_cases a2':q2=0
  ·subst a2';simp [hc,<-hH1,g1,j1,e2,hc2,g2,j2,hsp,e3,<-hH3,g3,j3,e4,e5,e8,g4,e6,e9,g5,e7,e10,g6,cat,g7,g8,g9,<-hH7,x1,x2,x3,y1,y2,y3,y4,y5,y6,<-hH8,z1,z2,z3,s12,s13,s23,lv,g10,f3,hB];exact le8
  ·have f2:=eq_false a2';have t3:=p4 a2';subst t3;simp [hc,<-hH1,g1,j1,e2,hc2,g2,j2,hsp,e3,<-hH3,g3,j3,e4,e5,e8,g4,e6,e9,g5,e7,e10,g6,cat,g7,g8,g9,<-hH7,x1,x2,x3,y1,y2,y3,y4,y5,y6,<-hH8,z1,z2,z3,s12,s13,s23,lv,g10,f3,hB,f2];exact le8
 ·have f1:=eq_false a1';obtain⟨t1,t2'⟩:=p3 a1';subst t1 t2'
  have key: ∀P:Prop,(((1445:Int)<=(B.length:Int))=P)->(P=True\/P=False):=fun P _=>by
   by_cases h:P
   ·exact .inl (eq_true h)
   ·exact .inr (eq_false h)
  rcases key _ rfl with hB|hB<;>by_cases a2':q2=0
  all_goals first
   |(subst a2'
     simp [hc,<-hH1,g1,j1,e2,hc2,g2,j2,hsp,e3,<-hH3,g3,j3,e4,e5,e8,g4,e6,e9,g5,e7,e10,g6,cat,g7,g8,g9,<-hH7,x1,x2,x3,y1,y2,y3,y4,y5,y6,<-hH8,z1,z2,z3,s12,s13,s23,lv,g10,f3,f1,hB];exact le8)
   |(have f2:=eq_false a2'
     have t3:=p4 a2';subst t3;simp [hc,<-hH1,g1,j1,e2,hc2,g2,j2,hsp,e3,<-hH3,g3,j3,e4,e5,e8,g4,e6,e9,g5,e7,e10,g6,cat,g7,g8,g9,<-hH7,x1,x2,x3,y1,y2,y3,y4,y5,y6,<-hH8,z1,z2,z3,s12,s13,s23,lv,g10,f3,f1,f2,hB];exact le8)
end
end Go.Proofs.YtbeoilidocfofaaGreatDoor.Sn
namespace Go.Proofs.YtbeoilidocfofaaGreatDoor.Sn
open Go.ChangeShapes Go.WideShapes Go.ChangeAt Go.RowKit Go.Tg Go.Lg Tg.Cl
theorem lh:Tryz.prog.cellsOf 23=3:=by kernel_rfl
theorem lj:Tryz.prog.cellsOf 30=10:=by kernel_rfl
theorem lk:Tryz.prog.cellsOf 33=2:=by kernel_rfl
theorem s8:Tryz.prog.cellsOf 31=1:=by kernel_rfl
section
variable {HH:Type} {enc:TypeId×Value->HH} {W:World} {g base fuel:Nat} {sp:Nat->Bool} {held:Bool} {cs:List Value} {x:DataW HH×List MemPlace}
theorem u6 (n:Nat) (hf:DataW.trod enc Tryz.prog W base sp held fuel 23 cs=some x): ∃(lg:Bool) (k d:Int),cs.map (cQ n)= [.bool lg,.int .i64 k,.int .i64 d]:=by
 cases fuel with
 |zero=>simp [DataW.trod]at hf
 |succ m=>
  rw [DataW.trod_step]at hf;unfold DataW.trodStep at hf;simp only [Tryz.underlying23,Value.cells]at hf;split at hf
  ·rename_i hs;rw [lh]at hs
   match cs,hs with
   | [c0,c1,c2],_=>
   simp only [Option.map_eq_some_iff]at hf;obtain⟨xs,hx,e1⟩:=hf;simp only [List.mapM_cons,List.mapM_nil,bind,Option.bind_eq_some_iff,pure,Option.some.injEq,gO,iW]at hx;obtain⟨y0,h0,_,⟨y1,h1,_,⟨y2,h2,_,rfl,rfl⟩,rfl⟩,rfl⟩:=hx;obtain⟨k0,q0,_,_⟩:=DataW.trod_bool Tryz.underlying4 h0;obtain⟨k1,q1,rfl,w1⟩:=DataW.trod_int Tryz.underlying3 h1;obtain⟨k2,q2,rfl,w2⟩:=DataW.trod_int Tryz.underlying3 h2;simp at q0 q1 q2;subst q0;subst q1;subst q2;exact⟨k0,k1,k2,by simp only [List.map_cons,List.map_nil,iX,il]⟩
  ·cases hf
theorem CV (n:Nat) (hf:DataW.trod enc Tryz.prog W base sp held fuel 25 cs=some x): ∃(u:List UInt8) (a1 a2:Bool) (me:Int),cs.map (cQ n)= [str u,.bool a1,.bool a2,.int .i64 me]:=by
 cases fuel with
 |zero=>simp [DataW.trod]at hf
 |succ m=>
  rw [DataW.trod_step]at hf;unfold DataW.trodStep at hf;simp only [Tryz.underlying25,Value.cells]at hf;split at hf
  ·rename_i hs;rw [oU]at hs
   match cs,hs with
   | [c0,c1,c2,c3],_=>
   simp only [Option.map_eq_some_iff]at hf;obtain⟨xs,hx,e1⟩:=hf;simp only [List.mapM_cons,List.mapM_nil,bind,Option.bind_eq_some_iff,pure,Option.some.injEq,iV,iW,gO]at hx;obtain⟨y0,h0,_,⟨y1,h1,_,⟨y2,h2,_,⟨y3,h3,_,rfl,rfl⟩,rfl⟩,rfl⟩,rfl⟩:=hx;obtain⟨s0,q0,_,_⟩:=DataW.trod_string Tryz.underlying9 h0;obtain⟨k1,q1,_,_⟩:=DataW.trod_bool Tryz.underlying4 h1;obtain⟨k2,q2,_,_⟩:=DataW.trod_bool Tryz.underlying4 h2;obtain⟨k3,q3,rfl,w3⟩:=DataW.trod_int Tryz.underlying3 h3;simp at q0 q1 q2 q3;subst q0;subst q1;subst q2;subst q3;exact⟨s0.data.toList,k1,k2,k3,by simp only [List.map_cons,List.map_nil,oW,iX,il]⟩
  ·cases hf
theorem u7 (hw0:0<W.heap.size) (hf:DataW.trod enc Tryz.prog W base (fun _=>true) held fuel 28 cs=some x): ∃(st:Int) (p:Value) (l:List Tg.Hd.Hdr),cs.map (cQ W.heap.size)= [.int .i64 st,p]/\bW (LH.lift W g) p l/\l.length<=maxLen:=by
 cases fuel with
 |zero=>simp [DataW.trod]at hf
 |succ m=>
  rw [DataW.trod_step]at hf;unfold DataW.trodStep at hf;simp only [Tryz.underlying28,Value.cells]at hf;split at hf
  ·rename_i hs;rw [oV]at hs
   match cs,hs with
   | [c0,c1],_=>
   simp only [Option.map_eq_some_iff]at hf;obtain⟨xs,hx,e1⟩:=hf;simp only [List.mapM_cons,List.mapM_nil,bind,Option.bind_eq_some_iff,pure,Option.some.injEq,iW,sW]at hx;obtain⟨y0,h0,_,⟨y1,h1,_,rfl,rfl⟩,rfl⟩:=hx;obtain⟨k0,q0,rfl,w0⟩:=DataW.trod_int Tryz.underlying3 h0;obtain⟨v1,xs,hc,hr,hl⟩:=ss (El:=fun(a:Tg.Hd.Hdr) cs=>cs= [str a.1,str a.2]) (g:=g) Tryz.underlying26 nF (by decide) hw0 (fun fuel cs y hy=>qJ W.heap.size hy) h1;simp at q0 hc;subst q0;subst hc;exact⟨k0,_,xs,by simp only [List.map_cons,List.map_nil,il],CF hr,hl⟩
  ·cases hf
end
theorem open_case {HH:Type} {enc:TypeId×Value->HH} {W:World} {g base b0:Nat} {held:Bool} {r:Reach} {v:Value} {d:DataW HH} {ps:List MemPlace} (hw0:0<W.heap.size)
  (hval:Value.okWide Tryz.prog W r b0 30 v) (hd:DataW.Trod enc Tryz.prog W base (fun _=>true) held 30 v d ps):
  ∃(c:Cas) (p:Value),jC W.heap.size v=casv c p/\bW (LH.lift W g) p c.h/\c.h.length<=maxLen:=by
 obtain⟨cs,rfl,hs⟩:=okWide_struct Tryz.underlying30 hval;rw [lj]at hs;obtain⟨l⟩:=cs
 match l,hs with
 | [c0,c1,c2,c3,c4,c5,c6,c7,c8,c9],_=>
 obtain⟨fuel,hf⟩:=hd;cases fuel with
 |zero=>simp [DataW.trod]at hf
 |succ n=>
  rw [DataW.trod_step]at hf;unfold DataW.trodStep at hf;simp only [Tryz.underlying30,Value.cells]at hf;rw [if_pos (by rw [lj];rfl)]at hf;simp only [Option.map_eq_some_iff]at hf;obtain⟨xs,hx,e1⟩:=hf;simp only [List.mapM_cons,List.mapM_nil,bind,Option.bind_eq_some_iff,pure,Option.some.injEq,lh,oU,oV,gO]at hx;obtain⟨y0,h0,_,⟨y1,h1,_,⟨y2,h2,_,⟨y3,h3,_,rfl,rfl⟩,rfl⟩,rfl⟩,rfl⟩:=hx;obtain⟨lg,k,dd,a0⟩:=u6 W.heap.size h0;obtain⟨u,b1,b2,me,a1⟩:=CV W.heap.size h1;obtain⟨st,p,l,a2,hr,hl⟩:=u7 (g:=g) hw0 h2;obtain⟨kn,a3,_,_⟩:=DataW.trod_bool Tryz.underlying4 h3;simp at a0 a1 a2 a3;refine⟨⟨lg,k,dd,u,b1,b2,me,st,l,kn⟩,p,oX ?_,hr,hl⟩;obtain⟨z0,z1,z2⟩:=a0;obtain⟨z3,z4,z5,z6⟩:=a1;obtain⟨z7,z8⟩:=a2;subst a3;simp only [List.map_cons,List.map_nil,iX,z0,z1,z2,z3,z4,z5,z6,z7,z8]
theorem open_body {HH:Type} {enc:TypeId×Value->HH} {W:World} {base b0:Nat} {held:Bool} {r:Reach} {v:Value} {d:DataW HH} {ps:List MemPlace}
  (hval:Value.okWide Tryz.prog W r b0 33 v) (hd:DataW.Trod enc Tryz.prog W base (fun _=>true) held 33 v d ps):
  ∃(b:Int) (s:List UInt8),jC W.heap.size v=bodyv b s/\0<=b/\b<=65535:=by
 obtain⟨cs,rfl,hs⟩:=okWide_struct Tryz.underlying33 hval;rw [lk]at hs;obtain⟨l⟩:=cs
 match l,hs with
 | [c0,c1],_=>
 obtain⟨fuel,hf⟩:=hd;cases fuel with
 |zero=>simp [DataW.trod]at hf
 |succ n=>
  rw [DataW.trod_step]at hf;unfold DataW.trodStep at hf;simp only [Tryz.underlying33,Value.cells]at hf;rw [if_pos (by rw [lk];rfl)]at hf;simp only [Option.map_eq_some_iff]at hf;obtain⟨xs,hx,e1⟩:=hf;simp only [List.mapM_cons,List.mapM_nil,bind,Option.bind_eq_some_iff,pure,Option.some.injEq,s8,iV]at hx;obtain⟨y0,h0,_,⟨y1,h1,_,rfl,rfl⟩,rfl⟩:=hx;obtain⟨k0,q0,rfl,w0⟩:=DataW.trod_int Tryz.underlying31 h0;obtain⟨s1,q1,_,_⟩:=DataW.trod_string Tryz.underlying9 h1;simp at q0 q1;subst q0;subst q1;have hw:=(Lit.wf_int_iff .u16 _).1 w0;exact⟨_,s1.data.toList,oX (by simp only [List.map_cons,List.map_nil,oW,il]),hw.1,hw.2⟩
end Go.Proofs.YtbeoilidocfofaaGreatDoor.Sn
