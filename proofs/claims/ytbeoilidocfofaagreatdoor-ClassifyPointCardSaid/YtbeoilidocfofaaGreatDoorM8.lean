/-
  Texts joined, part 8: ClPlain, ClStay, ClStayL, DoorJ, ClPoint.
-/
import Derived.Test.YtbeoilidocfofaaGreatDoorM7
set_option linter.all false
set_option maxRecDepth 100000
namespace Go.Proofs.YtbeoilidocfofaaGreatDoor.Sn
open Go.Lg Go.Tg Tg.Cl Tg.Ob
section
variable {c:Cas} {s t:List UInt8} {j:Bool}
theorem kO (t:List UInt8) (D:Nat) (en:Bool):Jx.Lx.ofP t 1445 D en=
  (if(Jx.Lx.wholeP (t.take 1445) D (en&&decide ((t.length:Int)<1445))).verdict≠0 then⟨(Jx.Lx.wholeP (t.take 1445) D (en&&decide ((t.length:Int)<1445))).verdict,(Jx.Lx.wholeP (t.take 1445) D (en&&decide ((t.length:Int)<1445))).reason,if Jx.Lx.atP (Jx.Lx.wholeP (t.take 1445) D (en&&decide ((t.length:Int)<1445)))<Jx.Lx.snAt t.length then Jx.Lx.snAt t.length else Jx.Lx.atP (Jx.Lx.wholeP (t.take 1445) D (en&&decide ((t.length:Int)<1445)))⟩
   else if(1445:Int)<=(t.length:Int)then⟨2,Tg.Lx.L.rLimit,1445⟩else⟨(Jx.Lx.wholeP (t.take 1445) D (en&&decide ((t.length:Int)<1445))).verdict,(Jx.Lx.wholeP (t.take 1445) D (en&&decide ((t.length:Int)<1445))).reason,Jx.Lx.atP (Jx.Lx.wholeP (t.take 1445) D (en&&decide ((t.length:Int)<1445)))⟩):=by
 unfold Jx.Lx.ofP;rw [show Jx.Lx.lim 1445=1445 by decide]
 have:t.take (if(1445:Int)<t.length then(1445:Int)else t.length).toNat=t.take 1445:=by
  split
  ·rfl
  ·rw [List.take_of_length_le (by omega),List.take_of_length_le (by omega)]
 rw [this]
theorem ta (hk:c.k=1445) (h1:1445<=s.length) (h2:1445<=t.length) (h:s.take 1445=t.take 1445) (a b:Bool):(jW c s a).v≠0/\(jW c s a).v=(jW c t b).v/\(jW c s a).r=(jW c t b).r/\(jW c s a).m=(jW c t b).m:=by
 unfold jW;rw [hk,kO,kO];have q1:decide ((s.length:Int)<1445)=false:=decide_eq_false (by omega);have q2:decide ((t.length:Int)<1445)=false:=decide_eq_false (by omega);rw [q1,q2,Bool.and_false,Bool.and_false,h];have g1:(1445:Int)<=(s.length:Int):=by omega
 have g2:(1445:Int)<=(t.length:Int):=by omega
 by_cases hv:(Jx.Lx.wholeP (t.take 1445) (Jx.clamp c.d).toNat false).verdict≠0
 ·simp only [if_pos hv];refine⟨hv,?_,?_,?_⟩<;>first|rfl|trivial
 ·simp only [if_neg hv,if_pos g1,if_pos g2];refine⟨by decide,?_,?_,?_⟩<;>first|rfl|trivial
theorem Gk (hk:c.k=1445):(jW c s true).v≠0:=by
 by_cases h1:1445<=s.length
 ·exact(ta hk h1 h1 rfl true true).1
 ·unfold jW;rw [hk,kO];have q1:decide ((s.length:Int)<1445)=true:=decide_eq_true (by omega);rw [q1,Bool.and_true]
  have hv:(Jx.Lx.wholeP (s.take 1445) (Jx.clamp c.d).toNat true).verdict≠0:=by
   unfold Jx.Lx.wholeP;rw [if_pos rfl];exact Tg.Lx.L.fin_verdict _
  simp only [if_pos hv];exact hv
theorem Gl (l:List Tg.Hd.Hdr):(gT j l s).1≠0:=by
 unfold gT;split
 ·exact(by decide:(1:Int)≠0)
 ·exact(by decide:(2:Int)≠0)
theorem jY (hl:c.lg=true) {en:Bool} (hr:eE s.length en=true):(bh j c s en).v≠0:=by
 unfold bh;rw [if_neg (by rw [hr];decide),if_pos hl];exact Gl _
theorem Gm {me st:Int} {l:List Tg.Hd.Hdr} (h1:1445<=s.length) (h2:1445<=t.length) (h:s.take 1445=t.take 1445):ofP me st l s=ofP me st l t:=by
 have e1:=wm (me:=me) (st:=st) (l:=l) (x:= []) h1;have e2:=wm (me:=me) (st:=st) (l:=l) (x:= []) h2;rw [<-e1,<-e2,h]
theorem yp {l:List Tg.Hd.Hdr} (h:s.take 1445=t.take 1445):gT j l s=gT j l t:=by
 unfold gT;rw [h]
theorem e_ {n:Int} (h:1445<=n) {en:Bool} :eE n en=true:=by
 unfold eE;rw [decide_eq_true h,Bool.or_true]
theorem u4 (h1:1445<=s.length) (h2:1445<=t.length) (h:s.take 1445=t.take 1445) (a b:Bool):bh j c s a=bh j c t b:=by
 unfold bh;rw [e_ (by omega),e_ (by omega),Gm h1 h2 h,yp h,h]
theorem fa (a:Jud):jX a a=true:=by simp [jX]
theorem CV {a b:Jud} (h1:a.v=b.v) (h2:a.r=b.r) (h3:a.m=b.m):jX a b=true:=by simp [jX,h1,h2,h3]
theorem jZ (hk:c.k=1445) (h1:1445<=s.length) (h2:1445<=t.length) (h:s.take 1445=t.take 1445) (a b:Bool):(bc j c s a).v≠0/\jX (bc j c s a) (bc j c t b)=true:=by
 unfold bc;rw [u4 h1 h2 h a b,e_ (by omega),e_ (by omega)];by_cases g1:(bU c).v≠0
 ·simp only [if_pos g1];exact⟨g1,fa _⟩
 ·simp only [if_neg g1];by_cases g2:(bh j c t b).v≠0
  ·simp only [if_pos g2];exact⟨g2,fa _⟩
  ·simp only [if_neg g2]
   have hl:c.lg=false:=by
    cases hc:c.lg with
    |false=>rfl
    |true=>exact absurd (jY hc (e_ (by omega))) g2
   rw [hl,if_neg (by decide),if_neg (by decide)];have:=ta hk h1 h2 h a b;exact⟨this.1,CV this.2.1 this.2.2.1 this.2.2.2⟩
theorem Gn (hk:c.k=1445):(bc j c s true).v≠0:=by
 unfold bc;by_cases g1:(bU c).v≠0
 ·rw [if_pos g1];exact g1
 ·rw [if_neg g1];by_cases g2:(bh j c s true).v≠0
  ·rw [if_pos g2];exact g2
  ·rw [if_neg g2]
   have hl:c.lg=false:=by
    cases hc:c.lg with
    |false=>rfl
    |true=>exact absurd (jY hc rfl) g2
   rw [hl,if_neg (by simp [eE])];exact Gk hk
theorem kP {i:Bool} (h1:s.length<1445) (hv:(bc j c s false).v≠0): ∀(t:List UInt8) (b:Bool),bc i c t b=bc j c s false:=by
 have hr:eE s.length false=false:=by
  unfold eE;rw [Bool.false_or];exact decide_eq_false (by omega)
 have g1:(bU c).v≠0:=by
  intro g1;apply hv;unfold bc bh;rw [hr];simp [g1,noJ]
 intro t b;unfold bc;rw [if_pos g1,if_pos g1]
theorem td (J:List UInt8->Bool) (hk:c.k=1445) (s t:List UInt8):
  (bc (J ((s++t).take 1445)) c (s++t) true).v≠0/\(1445<=s.length->(bc (J (s.take 1445)) c s false).v≠0)/\
  ((bc (J (s.take 1445)) c s false).v≠0->jX (bc (J (s.take 1445)) c s false) (bc (J ((s++t).take 1445)) c (s++t) false)=true/\jX (bc (J (s.take 1445)) c s false) (bc (J ((s++t).take 1445)) c (s++t) true)=true)/\
  ((bc (J ((s++t).take 1445)) c (s++t) false).v≠0->jX (bc (J ((s++t).take 1445)) c (s++t) false) (bc (J ((s++t).take 1445)) c (s++t) true)=true):=by
 refine⟨Gn hk,fun h=>(jZ hk h h rfl false false).1,fun hv=>?_,fun hv=>?_⟩
 ·by_cases h:1445<=s.length
  ·have e:(s++t).take 1445=s.take 1445:=List.take_append_of_le_length h;have h2:1445<=(s++t).length:=by rw [List.length_append];omega
   rw [e];exact⟨(jZ hk h h2 e.symm false false).2,(jZ hk h h2 e.symm false true).2⟩
  ·rw [kP (i:=J ((s++t).take 1445)) (by omega) hv (s++t) false,kP (i:=J ((s++t).take 1445)) (by omega) hv (s++t) true];exact⟨fa _,fa _⟩
 ·by_cases h:1445<=(s++t).length
  ·exact(jZ hk h h rfl false true).2
  ·rw [kP (i:=J ((s++t).take 1445)) (by omega) hv (s++t) true];exact fa _
end
def CW:List Tg.Hd.Hdr:= [([67,111,110,116,101,110,116,45,84,121,112,101],[116,101,120,116,47,104,116,109,108])]
def er:Cas:=⟨false,1445,9,[],true,true,0,200,CW,false⟩
theorem Po:(bc false er [120,61,49,59] true).v=1:=by decide+kernel
theorem Pp:(bc false er [60,112,62] true).v=2:=by decide+kernel
theorem Pq:(bc false er [120,61,49,59] false).v=0:=by decide+kernel
theorem Gp {i j:Bool} {c:Cas} (h:c.lg=false) {s:List UInt8} {en:Bool} :bc i c s en=bc j c s en:=by
 have:bh i c s en=bh j c s en:=by
  unfold bh;rw [h];rfl
 unfold bc;rw [this]
section
variable {H H':LH} {N:Nat} {s t u:List UInt8} {v w:Value} {c:Cas} {n:Int} {en m:Bool}
theorem qQ:Tg.Mi.SmH er.h:=⟨by decide,by simp [er,CW]⟩
theorem u5 {a b:List UInt8} :bG Tryz.prog 58 [str [],str []] [(0,str a),(1,str b)]=some [str a,str b]:=by
 rw [aB (o:=0) (n:=1) (g:=false) (by simp) rfl (by simp) (by simp),aB (o:=1) (n:=1) (g:=false) (by simp) rfl (by simp) (by simp)];simp
theorem u6 {m:Int} {a:Option Addr} {x y:Nat} :bG Tryz.prog 28 [.int .i64 0,.slice none 0 0] [(0,.int .i64 m),(1,.slice a x y)]=some [.int .i64 m,.slice a x y]:=by
 rw [aB (o:=0) (n:=1) (g:=false) (by simp) rfl (by simp) (by simp),aB (o:=1) (n:=1) (g:=false) (by simp) rfl (by simp) (by simp)];simp
theorem u7:bG Tryz.prog 23 [.bool false,.int .i64 0,.int .i64 0] [(1,.int .i64 1445),(2,.int .i64 9)]=some [.bool false,.int .i64 1445,.int .i64 9]:=by
 rw [aB (o:=1) (n:=1) (g:=false) (by simp) rfl (by simp) (by simp),aB (o:=2) (n:=1) (g:=false) (by simp) rfl (by simp) (by simp)];simp
theorem u9:bG Tryz.prog 25 [str [],.bool false,.bool false,.int .i64 0] [(1,.bool true),(2,.bool true)]=some [str [],.bool true,.bool true,.int .i64 0]:=by
 rw [aB (o:=1) (n:=1) (g:=false) (by simp) rfl (by simp) (by simp),aB (o:=2) (n:=1) (g:=false) (by simp) rfl (by simp) (by simp)];simp
theorem u_ {a:Option Addr} {x y:Nat} :bG Tryz.prog 30 [.bool false,.int .i64 0,.int .i64 0,str [],.bool false,.bool false,.int .i64 0,.int .i64 0,.slice none 0 0,.bool false] [(0,.agg #[.bool false,.int .i64 1445,.int .i64 9]),(1,.agg #[str [],.bool true,.bool true,.int .i64 0]),(2,.agg #[.int .i64 200,.slice a x y])]=some [.bool false,.int .i64 1445,.int .i64 9,str [],.bool true,.bool true,.int .i64 0,.int .i64 200,.slice a x y,.bool false]:=by
 rw [h_ (o:=0) (n:=3) (g:=true) (by simp) rfl (by simp)];show bG _ _ [.bool false,.int .i64 1445,.int .i64 9,str [],.bool false,.bool false,.int .i64 0,.int .i64 0,.slice none 0 0,.bool false] _=_;rw [h_ (o:=3) (n:=4) (g:=true) (by simp) rfl (by simp)];show bG _ _ [.bool false,.int .i64 1445,.int .i64 9,str [],.bool true,.bool true,.int .i64 0,.int .i64 0,.slice none 0 0,.bool false] _=_;rw [h_ (o:=7) (n:=2) (g:=true) (by simp) rfl (by simp)];show bG _ _ [.bool false,.int .i64 1445,.int .i64 9,str [],.bool true,.bool true,.int .i64 0,.int .i64 200,.slice a x y,.bool false] _=_;simp
abbrev Ti:LB:=⟨[str [67,111,110,116,101,110,116,45,84,121,112,101],str [116,101,120,116,47,104,116,109,108]],58,true⟩
abbrev Tj:LB:=⟨[.bool false,.int .i64 0,.int .i64 0,str [],.bool false,.bool false,.int .i64 0,.int .i64 0,.slice none 0 0,.bool false],30,true⟩
theorem qS: ∃v' H',LC Tryz.prog EJ 16 [] H=some (casv er v',H')/\H.le H'/\bT H' v' er.h/\Bs H H':=by
 obtain⟨r,h,e⟩:=aD (P:=Tryz.prog) (E:=EJ) (f:=16) rfl Tryz.func16 rfl (Nat.le_of_ble_eq_true rfl) (by decide) (by kernel_rfl) (H:=H) (args:= []) (Q:=fun r=>r=(casv er (sl (H.n+1) 1 1),((H.new Tj).new Ti).set H.n ⟨[.bool false,.int .i64 1445,.int .i64 9,str [],.bool true,.bool true,.int .i64 0,.int .i64 200,sl (H.n+1) 1 1,.bool false],30,true⟩)) (by
  simp [u5,u6,u7,u9,u_,OK,er])
 subst e;rw [dH (by simp [er,ao,az,aA])]at h;refine⟨_,_,h,le_refl.new.new.set (Nat.le_refl _),?_,⟨by simp,by simp⟩⟩;refine .inr ⟨H.n+1,0,1,rfl,fun _=>⟨Ti,by rw [ah (by omega),show H.n+1=(H.new Tj).n from rfl,ak],by show H.n+1<H.n+1+1;omega,fun i hi=>?_⟩⟩;have:i=0:=by simp [er,CW]at hi;omega
 subst this;exact⟨by decide,rfl,rfl,rfl⟩
theorem kQ (ht:cJ H) (hm:dU H):LC Tryz.prog EJ 11 [] H=some (.bool true,H):=by
 refine ag rfl Tryz.func11 rfl (Nat.le_of_ble_eq_true rfl) (by decide) (by kernel_rfl) rfl ?_;obtain⟨v1,H1,a1,l1,r1,b1⟩:=qS (H:=H);obtain⟨v2,H2,a2,l2,r2,b2⟩:=qS (H:=H1);obtain⟨v3,H3,a3,l3,r3,b3⟩:=qS (H:=H2);have b02:=b1.trans b2;have b03:=b02.trans b3;have e1:=s9 (s:= [120,61,49,59]) r1 qQ (bQ ht b1) (hm.bs b1) (by decide);have e2:=s9 (s:= [60,112,62]) r2 qQ (bQ ht b02) (hm.bs b02) (by decide);have e3:=wk (s:= [120,61,49,59]) (en:=false) r3 qQ (bQ ht b03) (hm.bs b03) (by decide);rw [Gp (j:=false) rfl]at e1 e2 e3;have h1:=Po;have h2:=Pp;have h3:=Pq;generalize bc false er [120,61,49,59] true=J1 at*;generalize bc false er [60,112,62] true=J2 at*;generalize bc false er [120,61,49,59] false=J3 at*;obtain⟨x1,y1,z1,w1⟩:=J1;obtain⟨x2,y2,z2,w2⟩:=J2;obtain⟨x3,y3,z3,w3⟩:=J3;dsimp only at h1 h2 h3;subst h1 h2 h3;have hle:=l1.trans (l2.trans l3);generalize casv er v1=c1 at*;generalize casv er v2=c2 at*;generalize casv er v3=c3 at*;simp [a1,e1,a2,e2,a3,e3]
 try exact hle
end
def dA (c:Cas):Cas:=⟨c.lg,1445,c.d,c.u.take 80,c.a1,c.a2,c.me,c.st,Tg.Hd.few c.h 8,c.kn⟩
theorem yq (c:Cas):ym (dA c)=dA c:=by
 unfold ym dA;rw [Tg.Hd.few_few,List.take_take];rfl
abbrev jz:LB:=⟨[.int .i64 0,str [],.int .i64 0,.bool false],38,true⟩
section
variable {H H':LH} {N:Nat} {s t u:List UInt8} {v w:Value} {c:Cas} {n b:Int} {en m:Bool}
theorem Gq (l:List Tg.Hd.Hdr):(Tg.Hd.few l 8).length<=9223372036854775807:=by have:=(Tg.Hd.few_sm l).1;omega
theorem fw (hr:bT H v (dA c).h): ∃v' H',LC Tryz.prog EJ 5 [casv (dA c) v] H=some (casv (dA c) v',H')/\H.le H'/\bT H' v' (dA c).h/\Bs H H':=by
 obtain⟨v',H',e,l,r,b⟩:=s_ hr (Gq _);rw [yq]at e r;exact⟨v',H',e,l,r.row,b⟩
end
end Go.Proofs.YtbeoilidocfofaaGreatDoor.Sn
namespace Go.Proofs.YtbeoilidocfofaaGreatDoor.Sn
open Go.ChangeShapes Go.WideShapes Go.ChangeAt Go.RowKit Go.Tg Go.Lg Tg.Cl
theorem lp:Tryz.prog.cellsOf 23=3:=by kernel_rfl
theorem lq:Tryz.prog.cellsOf 30=10:=by kernel_rfl
theorem lu:Tryz.prog.cellsOf 33=2:=by kernel_rfl
theorem te:Tryz.prog.cellsOf 31=1:=by kernel_rfl
section
variable {HH:Type} {enc:TypeId×Value->HH} {W:World} {g base fuel:Nat} {sp:Nat->Bool} {held:Bool} {cs:List Value} {x:DataW HH×List MemPlace}
theorem va (n:Nat) (hf:DataW.trod enc Tryz.prog W base sp held fuel 23 cs=some x): ∃(lg:Bool) (k d:Int),cs.map (cP n)= [.bool lg,.int .i64 k,.int .i64 d]:=by
 cases fuel with
 |zero=>simp [DataW.trod]at hf
 |succ m=>
  rw [DataW.trod_step]at hf;unfold DataW.trodStep at hf;simp only [Tryz.underlying23,Value.cells]at hf;split at hf
  ·rename_i hs;rw [lp]at hs
   match cs,hs with
   | [c0,c1,c2],_=>
   simp only [Option.map_eq_some_iff]at hf;obtain⟨xs,hx,e1⟩:=hf;simp only [List.mapM_cons,List.mapM_nil,bind,Option.bind_eq_some_iff,pure,Option.some.injEq,gR,iY]at hx;obtain⟨y0,h0,_,⟨y1,h1,_,⟨y2,h2,_,rfl,rfl⟩,rfl⟩,rfl⟩:=hx;obtain⟨k0,q0,_,_⟩:=DataW.trod_bool Tryz.underlying4 h0;obtain⟨k1,q1,rfl,w1⟩:=DataW.trod_int Tryz.underlying3 h1;obtain⟨k2,q2,rfl,w2⟩:=DataW.trod_int Tryz.underlying3 h2;simp at q0 q1 q2;subst q0;subst q1;subst q2;exact⟨k0,k1,k2,by simp only [List.map_cons,List.map_nil,iZ,ir]⟩
  ·cases hf
theorem CY (n:Nat) (hf:DataW.trod enc Tryz.prog W base sp held fuel 25 cs=some x): ∃(u:List UInt8) (a1 a2:Bool) (me:Int),cs.map (cP n)= [str u,.bool a1,.bool a2,.int .i64 me]:=by
 cases fuel with
 |zero=>simp [DataW.trod]at hf
 |succ m=>
  rw [DataW.trod_step]at hf;unfold DataW.trodStep at hf;simp only [Tryz.underlying25,Value.cells]at hf;split at hf
  ·rename_i hs;rw [oW]at hs
   match cs,hs with
   | [c0,c1,c2,c3],_=>
   simp only [Option.map_eq_some_iff]at hf;obtain⟨xs,hx,e1⟩:=hf;simp only [List.mapM_cons,List.mapM_nil,bind,Option.bind_eq_some_iff,pure,Option.some.injEq,iX,iY,gR]at hx;obtain⟨y0,h0,_,⟨y1,h1,_,⟨y2,h2,_,⟨y3,h3,_,rfl,rfl⟩,rfl⟩,rfl⟩,rfl⟩:=hx;obtain⟨s0,q0,_,_⟩:=DataW.trod_string Tryz.underlying9 h0;obtain⟨k1,q1,_,_⟩:=DataW.trod_bool Tryz.underlying4 h1;obtain⟨k2,q2,_,_⟩:=DataW.trod_bool Tryz.underlying4 h2;obtain⟨k3,q3,rfl,w3⟩:=DataW.trod_int Tryz.underlying3 h3;simp at q0 q1 q2 q3;subst q0;subst q1;subst q2;subst q3;exact⟨s0.data.toList,k1,k2,k3,by simp only [List.map_cons,List.map_nil,oY,iZ,ir]⟩
  ·cases hf
theorem vc (hw0:0<W.heap.size) (hf:DataW.trod enc Tryz.prog W base (fun _=>true) held fuel 28 cs=some x): ∃(st:Int) (p:Value) (l:List Tg.Hd.Hdr),cs.map (cP W.heap.size)= [.int .i64 st,p]/\bT (LH.lift W g) p l/\l.length<=maxLen:=by
 cases fuel with
 |zero=>simp [DataW.trod]at hf
 |succ m=>
  rw [DataW.trod_step]at hf;unfold DataW.trodStep at hf;simp only [Tryz.underlying28,Value.cells]at hf;split at hf
  ·rename_i hs;rw [oX]at hs
   match cs,hs with
   | [c0,c1],_=>
   simp only [Option.map_eq_some_iff]at hf;obtain⟨xs,hx,e1⟩:=hf;simp only [List.mapM_cons,List.mapM_nil,bind,Option.bind_eq_some_iff,pure,Option.some.injEq,iY,s5]at hx;obtain⟨y0,h0,_,⟨y1,h1,_,rfl,rfl⟩,rfl⟩:=hx;obtain⟨k0,q0,rfl,w0⟩:=DataW.trod_int Tryz.underlying3 h0;obtain⟨v1,xs,hc,hr,hl⟩:=sy (El:=fun(a:Tg.Hd.Hdr) cs=>cs= [str a.1,str a.2]) (g:=g) Tryz.underlying26 nI (by decide) hw0 (fun fuel cs y hy=>qL W.heap.size hy) h1;simp at q0 hc;subst q0;subst hc;exact⟨k0,_,xs,by simp only [List.map_cons,List.map_nil,ir],CJ hr,hl⟩
  ·cases hf
end
theorem open_case {HH:Type} {enc:TypeId×Value->HH} {W:World} {g base b0:Nat} {held:Bool} {r:Reach} {v:Value} {d:DataW HH} {ps:List MemPlace} (hw0:0<W.heap.size)
  (hval:Value.okWide Tryz.prog W r b0 30 v) (hd:DataW.Trod enc Tryz.prog W base (fun _=>true) held 30 v d ps):
  ∃(c:Cas) (p:Value),lf W.heap.size v=casv c p/\bT (LH.lift W g) p c.h/\c.h.length<=maxLen:=by
 obtain⟨cs,rfl,hs⟩:=okWide_struct Tryz.underlying30 hval;rw [lq]at hs;obtain⟨l⟩:=cs
 match l,hs with
 | [c0,c1,c2,c3,c4,c5,c6,c7,c8,c9],_=>
 obtain⟨fuel,hf⟩:=hd;cases fuel with
 |zero=>simp [DataW.trod]at hf
 |succ n=>
  rw [DataW.trod_step]at hf;unfold DataW.trodStep at hf;simp only [Tryz.underlying30,Value.cells]at hf;rw [if_pos (by rw [lq];rfl)]at hf;simp only [Option.map_eq_some_iff]at hf;obtain⟨xs,hx,e1⟩:=hf;simp only [List.mapM_cons,List.mapM_nil,bind,Option.bind_eq_some_iff,pure,Option.some.injEq,lp,oW,oX,gR]at hx;obtain⟨y0,h0,_,⟨y1,h1,_,⟨y2,h2,_,⟨y3,h3,_,rfl,rfl⟩,rfl⟩,rfl⟩,rfl⟩:=hx;obtain⟨lg,k,dd,a0⟩:=va W.heap.size h0;obtain⟨u,b1,b2,me,a1⟩:=CY W.heap.size h1;obtain⟨st,p,l,a2,hr,hl⟩:=vc (g:=g) hw0 h2;obtain⟨kn,a3,_,_⟩:=DataW.trod_bool Tryz.underlying4 h3;simp at a0 a1 a2 a3;refine⟨⟨lg,k,dd,u,b1,b2,me,st,l,kn⟩,p,oZ ?_,hr,hl⟩;obtain⟨z0,z1,z2⟩:=a0;obtain⟨z3,z4,z5,z6⟩:=a1;obtain⟨z7,z8⟩:=a2;subst a3;simp only [List.map_cons,List.map_nil,iZ,z0,z1,z2,z3,z4,z5,z6,z7,z8]
theorem open_body {HH:Type} {enc:TypeId×Value->HH} {W:World} {base b0:Nat} {held:Bool} {r:Reach} {v:Value} {d:DataW HH} {ps:List MemPlace}
  (hval:Value.okWide Tryz.prog W r b0 33 v) (hd:DataW.Trod enc Tryz.prog W base (fun _=>true) held 33 v d ps):
  ∃(b:Int) (s:List UInt8),lf W.heap.size v=bodyv b s/\0<=b/\b<=65535:=by
 obtain⟨cs,rfl,hs⟩:=okWide_struct Tryz.underlying33 hval;rw [lu]at hs;obtain⟨l⟩:=cs
 match l,hs with
 | [c0,c1],_=>
 obtain⟨fuel,hf⟩:=hd;cases fuel with
 |zero=>simp [DataW.trod]at hf
 |succ n=>
  rw [DataW.trod_step]at hf;unfold DataW.trodStep at hf;simp only [Tryz.underlying33,Value.cells]at hf;rw [if_pos (by rw [lu];rfl)]at hf;simp only [Option.map_eq_some_iff]at hf;obtain⟨xs,hx,e1⟩:=hf;simp only [List.mapM_cons,List.mapM_nil,bind,Option.bind_eq_some_iff,pure,Option.some.injEq,te,iX]at hx;obtain⟨y0,h0,_,⟨y1,h1,_,rfl,rfl⟩,rfl⟩:=hx;obtain⟨k0,q0,rfl,w0⟩:=DataW.trod_int Tryz.underlying31 h0;obtain⟨s1,q1,_,_⟩:=DataW.trod_string Tryz.underlying9 h1;simp at q0 q1;subst q0;subst q1;have hw:=(Lit.wf_int_iff .u16 _).1 w0;exact⟨_,s1.data.toList,oZ (by simp only [List.map_cons,List.map_nil,oY,ir]),hw.1,hw.2⟩
end Go.Proofs.YtbeoilidocfofaaGreatDoor.Sn
namespace Go.Proofs.YtbeoilidocfofaaGreatDoor.Sn
open Go.Lg Go.Tg Tg.Cl Tg.Ob
section
variable {H H':LH} {N:Nat} {s t u:List UInt8} {v w:Value} {c:Cas} {n b:Int} {en m:Bool}
theorem CZ {a d:Nat} {p:Nat->Bool} (hN:N<=1000000) (hf: ∀i,i<N->LC Tryz.prog EJ 17 [.int .i64 i,ptr a 0,ptr d 0] H=some (.bool (p i),H)):
  ∃i,i<=N/\(i=0\/p (i-1)=false)/\(i=N\/p i=true)/\LC Tryz.prog EJ 18 [.int .i64 N,.func (.func 17) #[] #[ptr a 0,ptr d 0]] H=some (.int .i64 i,H):=by
 obtain⟨r,h,i,e,h1,h2,h3⟩:=aD (P:=Tryz.prog) (E:=EJ) (f:=18) rfl Tryz.func18 rfl (Nat.le_of_ble_eq_true rfl) (by decide) (by kernel_rfl) (H:=H) (args:= [.int .i64 N,.func (.func 17) #[] #[ptr a 0,ptr d 0]]) (Q:=fun r=> ∃i,r=(.int .i64 (i:Nat),H)/\i<=N/\(i=0\/p (i-1)=false)/\(i=N\/p i=true)) (by
  simp;refine aK (fun(k:Nat) fr' H'=>fr' 1=.func (.func 17) #[] #[ptr a 0,ptr d 0]/\ ∃i j:Nat,fr' 5=.int .i64 i/\fr' 6=.int .i64 j/\i<=j/\j<=N/\(i=0\/p (i-1)=false)/\(j=N\/p j=true)/\k=j-i/\H'=H) (fun k=>k) N ⟨by simp,0,N,by simp,by simp,Nat.zero_le _,Nat.le_refl _,.inl rfl,.inl rfl,rfl,rfl⟩ ?_;rintro k fr' H' ⟨g1,i,j,g5,g6,hij,hj,hi0,hjn,rfl,rfl⟩ ih;by_cases hlt:i<j
  ·have q:=eq_true (show(i:Int)<(j:Int) by omega);obtain⟨k,hk⟩: ∃k,k=(i+j)/2:=⟨_,rfl⟩
   have hw:IntKind.i64.wrap ((IntKind.u64.wrap (IntKind.i64.wrap ((i:Int)+j))).fdiv (2^min 1 IntKind.u64.bits))=(k:Int):=by
    have a1:IntKind.i64.wrap ((i:Int)+j)=(i:Int)+j:=wrapI (by omega) (by omega);have a2:IntKind.u64.wrap ((i:Int)+j)=(i:Int)+j:=by rw [IntKind.wrap_u64];omega
    have a3:((i:Int)+j).fdiv 2=(k:Int):=by rw [Int.fdiv_eq_ediv_of_nonneg _ (by decide)];omega
    rw [a1,a2,show(2:Int)^min 1 IntKind.u64.bits=2 by decide,a3];exact wrapI (by omega) (by omega)
   have hw2:IntKind.i64.wrap ((k:Int)+1)=((k+1:Nat):Int):=by rw [wrapI (by omega) (by omega)];omega
   have e:=hf k (by omega);cases hp:p k with
   |false=>
    rw [hp]at e;simp [g1,g5,g6,q,hw,e];refine ih (j-(k+1)) _ _ (by omega) ⟨?_,k+1,j,?_,?_,by omega,hj,.inr (by simpa using hp),hjn,rfl,rfl⟩
    ·simp [g1]
    ·simp [hw2]
    ·simp [g6]
   |true=>
    rw [hp]at e;simp [g1,g5,g6,q,hw,e];refine ih (k-i) _ _ (by omega) ⟨?_,i,k,?_,?_,by omega,by omega,hi0,.inr hp,rfl,rfl⟩
    ·simp [g1]
    ·simp [g5]
    ·simp
  ·have q:=eq_false (show¬(i:Int)<(j:Int) by omega);have:i=j:=by omega
   subst this;simp [g1,g5,g6,q];exact⟨i,rfl,hj,hi0,hjn⟩)
 subst e;exact⟨i,h1,h2,h3,by rw [h];simp [trunc]⟩
noncomputable def lD (H:LH) (c:Cas) (s:List UInt8) (n:Nat):Bool:=!decide ((bc (cX H.base H.ng ((s.take n).take 1445)) c (s.take n) false).v=0)
theorem Pr {a d i:Nat} (ha:H.get a=some ⟨[.bool c.lg,.int .i64 c.k,.int .i64 c.d,str c.u,.bool c.a1,.bool c.a2,.int .i64 c.me,.int .i64 c.st,v,.bool c.kn],30,true⟩) (hd:H.get d=some ⟨[str s],9,true⟩) (hr:bT H v c.h) (hs:Tg.Mi.SmH c.h) (ht:cJ H) (hm:dU H) (hl:s.length<=1000000) (hi:i<=s.length):
  LC Tryz.prog EJ 17 [.int .i64 i,ptr a 0,ptr d 0] H=some (.bool (lD H c s i),H):=by
 refine ag rfl Tryz.func17 rfl (Nat.le_of_ble_eq_true rfl) (by decide) (by kernel_rfl) rfl ?_;have hc:=aV hr;have q0:=eq_true (show(i:Int)<=(s.length:Int) by omega);have e:=qP (s:=s.take i) (en:=false) hr hs ht hm (by rw [List.length_take];omega);unfold lD;generalize bc (cX H.base H.ng ((s.take i).take 1445)) c (s.take i) false=J at*;obtain⟨jv',jr,jn,jm⟩:=J;dsimp only at*;by_cases h:jv'=0
 ·subst h;simp [ha,hd,hc,hi,q0,e]
 ·have hf:=eq_false h;simp [ha,hd,hc,hi,q0,e,hf]
theorem Gr (hr:bT H v c.h) (hs:Tg.Mi.SmH c.h) (ht:cJ H) (hm:dU H) (hl:s.length<=100000): ∃(n:Nat) (ok:Bool),LC Tryz.prog EJ 12 [casv c v,str s] H=some (.tuple #[.int .i64 n,.bool ok],H)/\((ok=false/\n=s.length/\lD H c s s.length=false)\/(ok=true/\n<=s.length/\(n=0\/lD H c s (n-1)=false)/\lD H c s n=true)):=by
 have hc:=aV hr;obtain⟨Hb,hHb⟩: ∃Hb,Hb=(H.new ⟨[.bool c.lg,.int .i64 c.k,.int .i64 c.d,str c.u,.bool c.a1,.bool c.a2,.int .i64 c.me,.int .i64 c.st,v,.bool c.kn],30,true⟩).new ⟨[str s],9,true⟩:=⟨_,rfl⟩
 have g1:Hb.get H.n=some ⟨[.bool c.lg,.int .i64 c.k,.int .i64 c.d,str c.u,.bool c.a1,.bool c.a2,.int .i64 c.me,.int .i64 c.st,v,.bool c.kn],30,true⟩:=by rw [hHb,aa (by simp),ak]
 have g2:Hb.get (H.n+1)=some ⟨[str s],9,true⟩:=by rw [hHb];exact ak
 have le1:H.le Hb:=by rw [hHb];exact le_refl.new.new
 have bs1:Bs H Hb:=by rw [hHb];exact⟨by simp,by simp⟩
 have hp:=fun i hi=>Pr (i:=i) g1 g2 (hr.keep le1.1 le1.2) hs (bQ ht bs1) (hm.bs bs1) (by omega) hi;obtain⟨i,h1,h2,h3,e⟩:=CZ (H:=Hb) (N:=s.length+1) (p:=lD Hb c s) (by omega) (fun i hi=>hp i (by omega));have hset: ∀i,lD Hb c s i=lD H c s i:=fun i=>by unfold lD;rw [bs1.1,bs1.2]
 simp only [hset]at h2 h3;have e': ∀x:Int,x=((s.length+1:Nat):Int)->LC Tryz.prog EJ 18 [.int .i64 x,.func (.func 17) #[] #[ptr H.n 0,ptr (H.n+1) 0]] Hb=some (.int .i64 i,Hb):=fun x hx=>by rw [hx];exact e
 have hw:IntKind.i64.wrap ((s.length:Int)+1)=((s.length+1:Nat):Int):=by rw [wrapI (by omega) (by omega)];omega
 have hsl:i=s.length+1\/i<=s.length:=by omega
 rcases hsl with rfl|hi
 ·refine⟨s.length,false,?_,.inl ⟨rfl,rfl,?_⟩⟩
  ·refine ag rfl Tryz.func12 rfl (Nat.le_of_ble_eq_true rfl) (by decide) (by kernel_rfl) rfl ?_;have q:=eq_true (show(s.length:Int)<((s.length+1:Nat):Int) by omega);simp [<-hHb,hc,g1,g2,e' _ hw,q];exact⟨fun _=>le1,by omega⟩
  ·rcases h2 with h2|h2
   ·cases h2
   ·exact h2
 ·refine⟨i,true,?_,.inr ⟨rfl,hi,h2,?_⟩⟩
  ·refine ag rfl Tryz.func12 rfl (Nat.le_of_ble_eq_true rfl) (by decide) (by kernel_rfl) rfl ?_;have q:=eq_false (show¬(s.length:Int)<(i:Int) by omega);simp [<-hHb,hc,g1,g2,e' _ hw,q];exact le1
  ·rcases h3 with h3|h3
   ·omega
   ·exact h3
abbrev Gs (c:Cas) (v:Value):LB:=⟨[.bool c.lg,.int .i64 c.k,.int .i64 c.d,str c.u,.bool c.a1,.bool c.a2,.int .i64 c.me,.int .i64 c.st,v,.bool c.kn],30,true⟩
set_option maxHeartbeats 4000000 in
theorem point36 (hr:bT H v c.h) (hl:c.h.length<=9223372036854775807) (h0:0<=b) (h1:b<=65535) (ht:cJ H) (hm:dU H): ∃H',LC Tryz.prog EJ 4 [casv c v,bodyv b s] H=some (.bool true,H'):=by
 refine⟨H,?_⟩;refine ag rfl Tryz.func4 rfl (Nat.le_of_ble_eq_true rfl) (by decide) (by kernel_rfl) rfl ?_;have hc:=aV hr;obtain⟨H1,hH1⟩: ∃H1,H1=(H.new (Gs c v)).new ⟨[.int .u16 b,str s],33,true⟩:=⟨_,rfl⟩
 have le1:H.le H1:=by rw [hH1];exact le_refl.new.new
 have n1:H1.n=H.n+1+1:=by rw [hH1];rfl
 have g1:H1.get H.n=some (Gs c v):=by rw [hH1,aa (by simp),ak]
 have j1:H1.get (H.n+1)=some ⟨[.int .u16 b,str s],33,true⟩:=by rw [hH1];exact ak
 have bs1:Bs H H1:=by rw [hH1];exact⟨by simp,by simp⟩
 obtain⟨v2,H2,e2,le2,hr2,bs2⟩:=s_ (hr.keep le1.1 le1.2) hl;have hc2:=aV hr2.row;have n2:=le2.1;have g2:=(le2.2 H.n (by omega)).trans g1;have j2:=(le2.2 (H.n+1) (by omega)).trans j1;obtain⟨H3,hH3⟩: ∃H3,H3=H2.set H.n (Gs (dA c) v2):=⟨_,rfl⟩
 have g3:H3.get H.n=some (Gs (dA c) v2):=by rw [hH3,aw]
 have j3:H3.get (H.n+1)=some ⟨[.int .u16 b,str s],33,true⟩:=by rw [hH3,ah (by omega),j2]
 have n3:H3.n=H2.n:=by rw [hH3];rfl
 have bs3:Bs H2 H3:=by rw [hH3];exact⟨by simp,by simp⟩
 have le3:H.le H3:=by rw [hH3];exact(le1.trans le2).set (Nat.le_refl _)
 have e4:=fun H:LH=>Gj (H:=H) (s:=s) h0 h1;have hr3:bT H3 v2 (dA c).h:=(show gm H1.n H3 v2 (dA c).h from bA.keep hr2 (by rw [n3];exact Nat.le_refl _) (fun k hk _ _=>by rw [hH3,ah (by omega)])).row;obtain⟨v4,H4,e5,le4,hr4,bs4⟩:=fw hr3;have n4:=le4.1;have g4:=(le4.2 H.n (by omega)).trans g3;obtain⟨v5,H5,e6,le5,hr5,bs5⟩:=fw (hr3.keep le4.1 le4.2);have n5:=le5.1;have g5:=(le5.2 H.n (by omega)).trans g4;have hsm:Tg.Mi.SmH (dA c).h:=Tg.Hd.few_sm c.h;have b3:=bs1.trans (bs2.trans bs3);have b4:=b3.trans bs4;have b5:=b4.trans bs5;have hlB:(cS b s).length<=1590:=by unfold cS;simp;omega
 obtain⟨n,ok,e7,hpt⟩:=Gr (s:=cS b s) hr4 hsm (bQ ht b4) (hm.bs b4) (by omega);have e8:=wk (s:=cS b s) (en:=false) hr5 hsm (bQ ht b5) (hm.bs b5) (by omega);obtain⟨J,hJ⟩: ∃J,J=bc (cX H5.base H5.ng ((cS b s).take 1445)) (dA c) (cS b s) false:=⟨_,rfl⟩
 rw [<-hJ]at e8;obtain⟨H6,hH6⟩: ∃H6,H6=(H5.new jz).set H5.n ⟨[.int .i64 J.v,str J.r,.int .i64 J.n,.bool J.m],38,true⟩:=⟨_,rfl⟩
 have z6:H6.get H5.n=some ⟨[.int .i64 J.v,str J.r,.int .i64 J.n,.bool J.m],38,true⟩:=by rw [hH6,aw]
 have le56:H5.le H6:=by rw [hH6];exact le_refl.new.set (Nat.le_refl _)
 have n6:H6.n=H5.n+1:=by rw [hH6];rfl
 have g6:=(le56.2 H.n (by omega)).trans g5;have b6:Bs H H6:=b5.trans (by rw [hH6];exact⟨by simp,by simp⟩);have hr6:=(((hr3.keep le4.1 le4.2).keep le5.1 le5.2).keep le56.1 le56.2)
 have le6:H.le H6:=le3.trans (le4.trans (le5.trans le56));obtain⟨v7,H7,e9,le7,hr7,bs7⟩:=fw hr6;have n7:=le7.1;have g7:=(le7.2 H.n (by omega)).trans g6;have z7:=(le7.2 H5.n (by omega)).trans z6;have b7:=b6.trans bs7;obtain⟨v8,H8,e10,le8,hr8,bs8⟩:=fw (hr6.keep le7.1 le7.2);have n8:=le8.1;have b8:=b7.trans bs8;have lv6:=kQ (bQ ht b6) (hm.bs b6);have lv7:=kQ (bQ ht b7) (hm.bs b7);have lv8:=kQ (bQ ht b8) (hm.bs b8);have eA:=wk (s:=(cS b s).take n) (en:=false) hr7 hsm (bQ ht b7) (hm.bs b7) (by rw [List.length_take];omega);have eB:=wk (s:=(cS b s).take (n-1)) (en:=false) hr8 hsm (bQ ht b8) (hm.bs b8) (by rw [List.length_take];omega);have hset: ∀i,lD H4 (dA c) (cS b s) i=!decide ((bc (cX H.base H.ng (((cS b s).take i).take 1445)) (dA c) ((cS b s).take i) false).v=0):=fun i=>by unfold lD;rw [b4.1,b4.2]
 rw [hset,hset,hset,List.take_length]at hpt;rw [b5.1,b5.2]at hJ;rw [b7.1,b7.2]at eA;rw [b8.1,b8.2]at eB
 have hst:(bc (cX H.base H.ng (((cS b s).take n).take 1445)) (dA c) ((cS b s).take n) false).v≠0->J.v≠0:=fun h=>by
  have:=((td (c:=dA c) (cX H.base H.ng) rfl ((cS b s).take n) ((cS b s).drop n)).2.2.1 h).1;rw [List.take_append_drop,<-hJ]at this;unfold jX at this;simp only [Bool.and_eq_true,decide_eq_true_eq]at this;rw [<-this.1];exact h
 rw [<-hJ]at hpt;clear hr hr2 hr3 hr4 hr5 hr6 hr7 hr8 hsm hset;generalize cS b s=B at*;generalize bc (cX H.base H.ng ((B.take n).take 1445)) (dA c) (B.take n) false=J1 at*;generalize bc (cX H.base H.ng ((B.take (n-1)).take 1445)) (dA c) (B.take (n-1)) false=J2 at*;obtain⟨lg,k,d,u,a1,a2,me,st,l,kn⟩:=c;dsimp only [dA,ym]at*;generalize u.take 80=u2 at*;have hsp:aW [.bool lg,.int .i64 k,.int .i64 d,str u,.bool a1,.bool a2,.int .i64 me,.int .i64 st,v,.bool kn] 0 [.bool lg,.int .i64 k,.int .i64 d,str u2,.bool a1,.bool a2,.int .i64 me,.int .i64 st,v2,.bool kn]= [.bool lg,.int .i64 k,.int .i64 d,str u2,.bool a1,.bool a2,.int .i64 me,.int .i64 st,v2,.bool kn]:=rfl;have le7':=le6.trans le7;have le8':=le7'.trans le8;obtain⟨q,r,m,w⟩:=J;obtain⟨q1,r1,m1,w1⟩:=J1;obtain⟨q2,r2,m2,w2⟩:=J2;dsimp only at*;rcases hpt with⟨rfl,rfl,hq⟩|⟨rfl,hn,hp,hq⟩
 ·have f0:q=0:=by simpa using hq
  subst f0;simp [hc,<-hH1,g1,j1,e2,hc2,g2,j2,hsp,<-hH3,g3,j3,e4,e5,e7,g4,e6,e8,<-hH6,g5,z6,lv6];exact le6
 ·have f1:q1≠0:=by simpa using hq
  have f0:=eq_false (hst f1);have f1:=eq_false f1;have t1:=eq_false (show¬(n:Int)<0 by omega);have t2:=eq_false (show¬(B.length:Int)<(n:Int) by omega);have t3:=eq_true (show(0:Int)<=(n:Int) by omega);have t4:=eq_true (show(n:Int)<=(B.length:Int) by omega);by_cases h0n:n=0
  ·subst h0n;rw [List.take_zero]at eA;have t2:=eq_false (show¬(B.length:Int)<0 by omega);simp [hc,<-hH1,g1,j1,e2,hc2,g2,j2,hsp,<-hH3,g3,j3,e4,e5,e7,g4,e6,e8,<-hH6,g5,g6,z6,f0,f1,t1,t2,t4,e9,eA,lv6,lv7];exact le7'
  ·obtain⟨n',hn'⟩: ∃n',n'=n-1:=⟨_,rfl⟩
   rw [<-hn']at eB
   have f2:q2=0:=by
    rcases hp with hp|hp
    ·exact absurd hp h0n
    ·simpa using hp
   have f3:=eq_false h0n;have f4:=eq_false (show¬(n:Int)=0 by omega);have t5:IntKind.i64.wrap ((n:Int)-1)=(n':Int):=by rw [wrapI (by omega) (by omega)];omega
   have t6:=eq_true (show(n':Int)<=(B.length:Int) by omega);simp [hc,<-hH1,g1,j1,e2,hc2,g2,j2,hsp,<-hH3,g3,j3,e4,e5,e7,g4,e6,e8,<-hH6,g5,g6,z6,f0,f1,f2,f3,f4,t1,t2,t3,t4,t5,t6,e9,eA,e10,eB,g7,lv6,lv7,lv8];exact le8'
end
end Go.Proofs.YtbeoilidocfofaaGreatDoor.Sn
