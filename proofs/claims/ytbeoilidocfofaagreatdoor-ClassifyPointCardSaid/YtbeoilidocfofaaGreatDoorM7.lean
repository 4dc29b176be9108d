/-
  Texts joined, part 7: SnEnv, SnRules, SnObs, SnPart, SnGrp, SnGrpB, SnGrpC, Rp, MiSplit, MiMime, MiPar, MiParse, MiGood, MiWith, MiRefA, MiRefB, MiRefC, MiSplitB, MiComb, MiRefD, MiExt, MiRefE, MiSaid, MiSaidB, MiRefF, ObJudge, ObOf, ObLaw, DoorN, DoorR, DoorK, ObCorbA, ClGrp, ObCorbB, ObCorbC, ObCorbD, SmHead, ClHead, ObCorbE, ClTop, ClOf, ClFew, ClBody, ObMedP.
-/
import Derived.Test.YtbeoilidocfofaaGreatDoorM5
import Derived.Test.YtbeoilidocfofaaGreatDoorM3
import Derived.Test.YtbeoilidocfofaaGreatDoorM6
import Derived.Test.YtbeoilidocfofaaGreatDoorM4
import Derived.Test.YtbeoilidocfofaaGreatDoorRows
import Derived.Test.YtbeoilidocfofaaGreatDoorM1
import Derived.ProofKit
import Derived.WideShapes
import Derived.RowKit
import Derived.ChangeArms
import Derived.LaidMore
import Derived.LaidSub
import Derived.Lib.LaidTab
import Derived.Stop.Joined
import Derived.Shelf.Vars
import Derived.HandedShaped
import Derived.Lay
import Derived.DataShut
import GoSem.ClaimGoes
set_option linter.all false
set_option maxRecDepth 100000
namespace Go.Proofs.YtbeoilidocfofaaGreatDoor
open Go.Lg Go.Tg
theorem gr {P:Program} {E:PEnv} {f:FuncId} {args:List Value} {H H':LH} {v:Value} (h:Sound P E (.call f args H (.ret v) H')):Gw P f args H v H':=by
 obtain⟨he,hc⟩:=h;refine .inl ⟨he,fun ι w args' h1 h2 h3=>(hc ι w args' h1 h2 h3).mono ?_⟩;rintro e w' ⟨ι',⟨v',rfl,hv⟩,ho⟩;exact⟨ι',v',rfl,ho,hv⟩
noncomputable def FU (f:FuncId):FuncId×Lg.Spec:=(f,fun args H=>LC Tryz.prog EJ f args H)
theorem FV {f:FuncId} :cr Tryz.prog (FU f).1 (FU f).2:=fun args H v H' h=>tOk _ _ _ _ _ h
def gN:Lg.Spec:=fun args H=>match args with
 | [.string s]=>if s.size<=1000000 then some (str (Tg.Un.film s.data.toList),H)else none
 |_=>none
theorem FW:cr Tryz.prog 203 gN:=by
 intro args H v H' h;unfold gN at h;split at h
 ·rename_i s;split at h
  ·rename_i hs;simp only [Option.some.injEq,Prod.mk.injEq]at h;obtain⟨rfl,rfl⟩:=h;have hl:s.data.toList.length<=1000000:=by simpa using hs
   have:=gr (uu (Fg (H:=H) (s:=s.data.toList) hl));rw [kx];exact this
  ·cases h
 ·cases h
open Classical in
noncomputable def cX (w:World) (g:Nat) (s:List UInt8):Bool:=if h: ∃b:Bool,R Tryz.prog cC (.call 70 [str s] (LH.empty w g) (.ret (.bool b)) (LH.empty w g))then Classical.choose h else false
noncomputable def gO:Lg.Spec:=fun args H=>match args with
 | [.string s]=>if s.size<=1000000 then some (.bool (cX H.base H.ng s.data.toList),H)else none
 |_=>none
theorem FX:cr Tryz.prog 70 gO:=by
 intro args H v H' h;unfold gO at h;split at h
 ·rename_i s;split at h
  ·rename_i hs;simp only [Option.some.injEq,Prod.mk.injEq]at h;obtain⟨rfl,rfl⟩:=h;have hb:=Mi.isJson_r (H:=LH.empty H.base H.ng) (s:=s.data.toList) (by simpa using hs);refine zT ?_ (fun x hx=>?_) rfl
   ·unfold cX;rw [dif_pos hb,kx];exact gr (uu (Classical.choose_spec hb))
   ·rcases List.mem_cons.1 hx with rfl|hx
    ·rfl
    ·cases hx
  ·cases h
 ·cases h
noncomputable def gP:Lg.Spec:=fun args H=>match args with
 | [.string s]=>if s.size<=1000000 then some (.tuple #[Mi.pv3 (Tg.Cl.contR s.data.toList).1,.int .i64 (Tg.Cl.contR s.data.toList).2],H)else none
 |_=>none
theorem FY:cr Tryz.prog 92 gP:=by
 intro args H v H' h;unfold gP at h;split at h
 ·rename_i s;split at h
  ·rename_i hs;simp only [Option.some.injEq,Prod.mk.injEq]at h;obtain⟨rfl,rfl⟩:=h;have:=gr (uu (Mi.content_r (H:=H) (s:=s.data.toList) (by simpa using hs)));rw [kx];exact this
  ·cases h
 ·cases h
theorem sQ (d:Int):0<=Jx.clamp d/\Jx.clamp d<=200:=by
 unfold Jx.clamp;repeat' split
 all_goals omega
open Classical in
noncomputable def jR:Lg.Spec:=fun args H=>match args with
 | [.string s,.agg ⟨[.bool _,.int .i64 k,.int .i64 d]⟩,.bool en]=>if cJ H/\s.size<=1000000 then some ((Jx.Lx.ofP s.data.toList k (Jx.clamp d).toNat en).val,H)else none
 |_=>none
theorem K0:cr Tryz.prog 23 jR:=by
 intro args H v H' h;unfold jR at h;split at h
 ·rename_i s l k d en;split at h
  ·rename_i hs;simp only [Option.some.injEq,Prod.mk.injEq]at h;obtain⟨rfl,rfl⟩:=h;refine zT ?_ (fun x hx=>?_) Jx.Lx.flat_jval
   ·have hd:=sQ d;have:=Jx.Lx.of_l (H:=H.bare) (s:=s.data.toList) (l:=l) (k:=k) (d:=d) (en:=en) (D:=(Jx.clamp d).toNat) (by omega) (by omega) (fun _ _=>rfl) hs.1 (by have:=hs.2;simp at this⊢;omega);rw [kx];exact vu Jx.extOk mixed _ _ _ _ _ this
   ·simp only [List.mem_cons,List.not_mem_nil,or_false]at hx;rcases hx with rfl|rfl|rfl<;>rfl
  ·cases h
 ·cases h
def Uo:List FuncId:=
 6::
 45::
 204::
 55::
 151::
 104::
 272::
 87::
 191::
 32::
 19::
 68::
 69::
 67::
 84::
 []
noncomputable def Th:List (FuncId×Lg.Spec):=
 (88,ct)::
 (203,gN)::
 (70,gO)::
 (92,gP)::
 (23,jR)::
 []
noncomputable def qI:List (FuncId×Lg.Spec):=Th++Uo.map FU
namespace Sn
noncomputable def EJ:Ext:=iA qI []
@[simp] theorem HN {s d:TypeId} :EJ.loud.cv s d=false:=rfl
@[simp] theorem HO {n id k:Nat} :EJ.loud.pm n id k= []:=rfl
@[simp] theorem HM {n id k:Nat} :EJ.loud.ch n id k=L' n id k:=rfl
@[simp] theorem vK {g:FuncId} :EJ.loud g=false:=rfl
theorem Cr: ∀p∈qI,cr Tryz.prog p.1 p.2:=by
 intro p hp;unfold qI at hp;rcases List.mem_append.1 hp with hp|hp
 ·unfold Th at hp;rcases List.mem_cons.1 hp with rfl|hp
  ·exact xP
  rcases List.mem_cons.1 hp with rfl|hp
  ·exact FW
  rcases List.mem_cons.1 hp with rfl|hp
  ·exact FX
  rcases List.mem_cons.1 hp with rfl|hp
  ·exact FY
  rcases List.mem_cons.1 hp with rfl|hp
  ·exact K0
  cases hp
 ·obtain⟨f,_,rfl⟩:=List.mem_map.1 hp;exact FV
theorem extOk:ow Tryz.prog EJ:=fun f s hs=>pW (loud:= []) Cr f s hs
theorem tOk:lz Tryz.prog (LC Tryz.prog EJ):=vu extOk mixed
section
variable {H:LH} {s t:List UInt8} {v w:Value}
theorem up {f:FuncId} {args:List Value} {r:Value×LH} (hf:EJ f=some (FU f).2) (h:LC Tryz.prog Go.Proofs.YtbeoilidocfofaaGreatDoor.EJ f args H=some r):LC Tryz.prog EJ f args H=some r:=dj hf h
theorem K1 (hs:s.length<=1000000):LC Tryz.prog EJ 203 [str s] H=some (str (Tg.Un.film s),H):=dj (s:=gN) rfl (by
 unfold gN str;dsimp only;rw [if_pos (by rw [cN];exact hs)])
theorem Ia {k:Int} (h0:0<=k):LC Tryz.prog EJ 6 [str s,.int .i64 k] H=some (str (s.take k.toNat),H):=up rfl (E9 h0)
theorem K2:LC Tryz.prog EJ 45 [str s] H=some (str (s.take 1445),H):=up rfl qe
theorem FZ:LC Tryz.prog EJ 104 [str s] H=some (str (Tg.Un.typeOf (s.take 1445) Tg.Un.imageL),H):=up rfl xO
theorem Cs:LC Tryz.prog EJ 150 [str s] H=some (str (Tg.Un.film (s.take 1445)),H):=by
 refine ag rfl Tryz.func150 rfl (Nat.le_of_ble_eq_true rfl) (by decide) (by kernel_rfl) rfl ?_;have h1:=fun H:LH=>K2 (H:=H) (s:=s);have h2:=fun H:LH=>K1 (H:=H) (s:=s.take 1445) (by rw [List.length_take];omega);generalize s.take 1445=u at*;simp [h1,h2]
theorem F0:LC Tryz.prog EJ 103 [str s] H=some (str (Tg.Un.film (s.take 1445)),H):=by
 have h0:=fun H:LH=>Cs (H:=H) (s:=s);refine ag rfl Tryz.func103 rfl (Nat.le_of_ble_eq_true rfl) (by decide) (by kernel_rfl) rfl ?_;simp [h0]
end
end Sn
section
variable {H:LH}
end
end Go.Proofs.YtbeoilidocfofaaGreatDoor
namespace Tg.Sn
open Tg.Un
def kind (s:List UInt8):List UInt8×Bool:=if film (s.take 1445)≠ []then(film (s.take 1445),true)else(typeOf (s.take 1445) imageL,false)
end Tg.Sn
namespace Go.Proofs.YtbeoilidocfofaaGreatDoor.Sn
open Go.Lg Go.Tg
section
variable {H:LH} {s t:List UInt8} {v w:Value}
theorem F1:LC Tryz.prog EJ 71 [str s] H=some (.tuple #[str (Tg.Sn.kind s).1,.bool (Tg.Sn.kind s).2],H):=by
 refine ag rfl Tryz.func71 rfl (Nat.le_of_ble_eq_true rfl) (by decide) (by kernel_rfl) rfl ?_;have h1:=fun H:LH=>F0 (H:=H) (s:=s);have h2:=fun H:LH=>FZ (H:=H) (s:=s);unfold Tg.Sn.kind;generalize Tg.Un.film (s.take 1445)=x at*;generalize Tg.Un.typeOf (s.take 1445) Tg.Un.imageL=y at*;by_cases h:x= []
 ·subst h;simp [h1,h2]
 ·simp [h1,h2,h]
def at31 (n:Int):Int:=if n<0 then 0 else if 1445<n then 1445 else n
theorem Ry {n:Int} :LC Tryz.prog EJ 31 [.int .i64 n] H=some (.int .i64 (at31 n),H):=by
 refine ag rfl Tryz.func31 rfl (Nat.le_of_ble_eq_true rfl) (by decide) (by kernel_rfl) rfl ?_;unfold at31;by_cases h:n<0
 ·have q:=eq_true h;simp [q]
 ·have q:=eq_false h;by_cases h2:1445<n
  ·have q2:=eq_true h2;simp [q,q2]
  ·have q2:=eq_false h2;simp [q,q2]
end
abbrev jv (v:Int) (r:List UInt8) (n:Int) (b:Bool):Value:=.agg #[.int .i64 v,str r,.int .i64 n,.bool b]
section
variable {H:LH} {s t:List UInt8} {v w:Value}
theorem Ct {v n:Int} {r:List UInt8} {b:Bool} :bG Tryz.prog 38 [.int .i64 0,str [],.int .i64 0,.bool false] [(0,.int .i64 v),(1,str r),(2,.int .i64 n),(3,.bool b)]=some [.int .i64 v,str r,.int .i64 n,.bool b]:=by
 rw [aB (o:=0) (n:=1) (g:=false) (by simp) rfl (by simp) (by simp),aB (o:=1) (n:=1) (g:=false) (by simp) rfl (by simp) (by simp),aB (o:=2) (n:=1) (g:=false) (by simp) rfl (by simp) (by simp),aB (o:=3) (n:=1) (g:=false) (by simp) rfl (by simp) (by simp)];simp
end
abbrev uS (a b:List UInt8) (p:Value):Value:=.agg #[str a,str b,p]
abbrev svp (a b:List UInt8) (p:Value) (h n g:Bool):Value:=.agg #[str a,str b,p,.bool h,.bool n,.bool g]
section
variable {H:LH} {s t:List UInt8} {pa:Option Addr} {pl pc:Nat}
theorem oV {p q:List UInt8} (hp:p.length<=1000000):LC Tryz.prog EJ 90 [str p,str q] H=some (.bool (decide (q.length<=p.length)&&decide (p.drop (p.length-q.length)=q)),H):=by
 refine ag rfl Tryz.func90 rfl (Nat.le_of_ble_eq_true rfl) (by decide) (by kernel_rfl) rfl ?_
 have h1: ∀H:LH,LC Tryz.prog EJ 122 [str p,str q] H=some (.bool (decide (q.length<=p.length)&&decide (p.drop (p.length-q.length)=q)),H):=fun H=>by
  refine ag rfl Tryz.func122 rfl (Nat.le_of_ble_eq_true rfl) (by decide) (by kernel_rfl) rfl ?_;by_cases h:q.length<=p.length
  ·have e:=eq_true (show(q.length:Int)<=(p.length:Int) by omega);have hw:IntKind.i64.wrap ((p.length:Int)-(q.length:Int))=((p.length-q.length:Nat):Int):=by rw [wrapI (by omega) (by omega)];omega
   have e2:=eq_true (show((p.length-q.length:Nat):Int)<=(p.length:Int) by omega);have e3:=eq_true (show(0:Int)<=((p.length-q.length:Nat):Int) by omega);have e4:(((p.length-q.length:Nat):Int)).toNat=p.length-q.length:=Int.toNat_natCast _;rw [decide_eq_true h,Bool.true_and];generalize ((p.length-q.length:Nat):Int)=d at*;generalize p.length-q.length=d' at*;simp [e,hw,e2,e3,e4]
  ·have e:=eq_false (show¬(q.length:Int)<=(p.length:Int) by omega);rw [decide_eq_false h,Bool.false_and];simp [e]
 simp [h1]
theorem ny {u:List UInt8} {ws:List (List UInt8)} {n:Nat} (hl:u.length<=1000000) (ha:(u.all fun b=>decide (b.toNat<128))=true) (hf:Lib.fields u=ws) (hn:ws.length=n) (hw:n<=1000) (ht:cJ H):LC Tryz.prog EJ 88 [str u] H=some (sl H.n n n,H.new ⟨ws.map str,9,true⟩):=by
 refine dj (s:=ct) rfl ?_;have e:(⟨u.toArray⟩:ByteArray).data.toList=u:=by simp
 simp only [ct,str,e,hf,hn]
 have ha': ∀(j:Nat) b,u[j]?=some b->b.toNat<128:=fun j b hb=>by
  have:=List.all_eq_true.1 ha b (List.mem_of_getElem? hb);simpa using this
 rw [if_pos ⟨by rw [cN];omega,ha',ht,by simp [maxLen,hf,hn];omega⟩];rfl
theorem dp {k u:List UInt8} {ws:List (List UInt8)} {n:Nat} (hl:u.length<=1000000) (ha:(u.all fun b=>decide (b.toNat<128))=true) (hf:Lib.fields u=ws) (hn:ws.length=n) (hw:n<=1000) (ht:cJ H):LC Tryz.prog EJ 56 [uS s t (.slice pa pl pc),str k,str u] H=some (.bool (decide (s=k)&&decide (t∈ws)),H):=by
 refine ag rfl Tryz.func56 rfl (Nat.le_of_ble_eq_true rfl) (by decide) (by kernel_rfl) rfl ?_;by_cases h:s=k
 ·have h1:=ny (H:=H.new ⟨[str s,str t,.slice pa pl pc],70,true⟩) hl ha hf hn hw (show cJ (H.new _) from ht)
  have h2:LC Tryz.prog EJ 87 [sl (H.n+1) n n,str t] ((H.new ⟨[str s,str t,.slice pa pl pc],70,true⟩).new ⟨ws.map str,9,true⟩)=some (.bool (decide (t∈ws)),(H.new ⟨[str s,str t,.slice pa pl pc],70,true⟩).new ⟨ws.map str,9,true⟩):=by
   refine up rfl (Bt ?_ (by omega));rw [<-hn];exact dW.of (k:=(H.new ⟨[str s,str t,.slice pa pl pc],70,true⟩).n) (c:=ws.length) (rest:= []) (by rw [ak,List.append_nil]) (Nat.lt_succ_self _)
  rw [decide_eq_true h,Bool.true_and];generalize decide (t∈ws)=b at*;subst h;simp only [aL]at h1;simp [h1,h2]
 ·rw [decide_eq_false h,Bool.false_and];have q:=eq_false h;simp [q]
end
end Go.Proofs.YtbeoilidocfofaaGreatDoor.Sn
namespace Tg.Sn
theorem sT: ∀(a s:List UInt8) {b t:List UInt8},(47:UInt8)∉a->(47:UInt8)∉b->(s++47::t=a++47::b↔s=a/\t=b)
 | [],[],b,t,_,_=>by simp
 | [],c::s,b,t,_,hb=>by
  constructor
  ·intro h;injection h with h1 h2;exact absurd (h2▸List.mem_append_right s (List.mem_cons_self ..)) hb
  ·rintro⟨h,_⟩;cases h
 |d::a,[],b,t,ha,_=>by
  constructor
  ·intro h;injection h with h1 h2;exact absurd (h1▸List.mem_cons_self ..) ha
  ·rintro⟨h,_⟩;cases h
 |d::a,c::s,b,t,ha,hb=>by
  have ih:=sT a s (b:=b) (t:=t) (fun h=>ha (List.mem_cons_of_mem _ h)) hb;constructor
  ·intro h;injection h with h1 h2;obtain⟨e1,e2⟩:=ih.1 h2;exact⟨by rw [h1,e1],e2⟩
  ·rintro⟨h,e⟩;injection h with h1 h2;rw [h1,h2,e]
def isHtml (s t:List UInt8):Bool:=decide (s= [116,101,120,116])&&decide (t= [104,116,109,108])
def isXml (s t:List UInt8):Bool:=(decide (4<=t.length)&&decide (t.drop (t.length-4)= [43,120,109,108]))||((decide (s= [116,101,120,116])&&decide (t= [120,109,108]))||(decide (s= [97,112,112,108,105,99,97,116,105,111,110])&&decide (t= [120,109,108])))
def isMedia (s t:List UInt8):Bool:=decide (s= [97,117,100,105,111])||(decide (s= [118,105,100,101,111])||(decide (s= [97,112,112,108,105,99,97,116,105,111,110])&&decide (t= [111,103,103])))
theorem ess_dec {s t a b c:List UInt8} (ha:(47:UInt8)∉a) (hb:(47:UInt8)∉b) (hc:c=a++47::b):decide (s++47::t=c)=(decide (s=a)&&decide (t=b)):=by
 subst hc;rw [Bool.eq_iff_iff,Bool.and_eq_true,decide_eq_true_iff,decide_eq_true_iff,decide_eq_true_iff];exact sT a s ha hb
end Tg.Sn
namespace Go.Proofs.YtbeoilidocfofaaGreatDoor.Sn
open Go.Lg Go.Tg
section
variable {H:LH} {s t:List UInt8} {pa:Option Addr} {pl pc:Nat}
theorem qJ (ht:cJ H):LC Tryz.prog EJ 59 [uS s t (.slice pa pl pc)] H=some (.bool (Tg.Sn.isHtml s t),H):=by
 refine ag rfl Tryz.func59 rfl (Nat.le_of_ble_eq_true rfl) (by decide) (by kernel_rfl) rfl ?_;have h1:=dp (H:=H.new ⟨[str s,str t,.slice pa pl pc],70,true⟩) (s:=s) (t:=t) (pa:=pa) (pl:=pl) (pc:=pc) (k:= [116,101,120,116]) (u:= [104,116,109,108]) (ws:= [[104,116,109,108]]) (n:=1) (by decide) (by decide) (by decide+kernel) rfl (by decide) (show cJ (H.new _) from ht);have e:(decide (s= [116,101,120,116])&&decide (t∈ [[104,116,109,108]]))=Tg.Sn.isHtml s t:=by unfold Tg.Sn.isHtml;simp
 rw [e]at h1;simp [h1]
theorem uT (hl:t.length<=1000000) (ht:cJ H):LC Tryz.prog EJ 60 [uS s t (.slice pa pl pc)] H=some (.bool (Tg.Sn.isXml s t),H):=by
 refine ag rfl Tryz.func60 rfl (Nat.le_of_ble_eq_true rfl) (by decide) (by kernel_rfl) rfl ?_;have h0:=fun H:LH=>oV (H:=H) (q:= [43,120,109,108]) hl;simp only [List.length_cons,List.length_nil]at h0;have h1:=dp (H:=H.new ⟨[str s,str t,.slice pa pl pc],70,true⟩) (s:=s) (t:=t) (pa:=pa) (pl:=pl) (pc:=pc) (k:= [116,101,120,116]) (u:= [120,109,108]) (ws:= [[120,109,108]]) (n:=1) (by decide) (by decide) (by decide+kernel) rfl (by decide) (show cJ (H.new _) from ht);have h2:=dp (H:=H.new ⟨[str s,str t,.slice pa pl pc],70,true⟩) (s:=s) (t:=t) (pa:=pa) (pl:=pl) (pc:=pc) (k:= [97,112,112,108,105,99,97,116,105,111,110]) (u:= [120,109,108]) (ws:= [[120,109,108]]) (n:=1) (by decide) (by decide) (by decide+kernel) rfl (by decide) (show cJ (H.new _) from ht);have e: ∀k:List UInt8,(decide (s=k)&&decide (t∈ [[120,109,108]]))=(decide (s=k)&&decide (t= [120,109,108])):=fun k=>by simp
 rw [e]at h1 h2;unfold Tg.Sn.isXml;generalize (decide (s= [116,101,120,116])&&decide (t= [120,109,108]))=b1 at*;generalize (decide (s= [97,112,112,108,105,99,97,116,105,111,110])&&decide (t= [120,109,108]))=b2 at*;generalize (decide (0+1+1+1+1<=t.length)&&decide (t.drop (t.length-(0+1+1+1+1))= [43,120,109,108]))=b3 at*;cases b3<;>cases b1<;>cases b2<;>simp [h0,h1,h2]
theorem Cu (ht:cJ H):LC Tryz.prog EJ 107 [uS s t (.slice pa pl pc)] H=some (.bool (Tg.Sn.isMedia s t),H):=by
 refine ag rfl Tryz.func107 rfl (Nat.le_of_ble_eq_true rfl) (by decide) (by kernel_rfl) rfl ?_;have h2:=dp (H:=H.new ⟨[str s,str t,.slice pa pl pc],70,true⟩) (s:=s) (t:=t) (pa:=pa) (pl:=pl) (pc:=pc) (k:= [97,112,112,108,105,99,97,116,105,111,110]) (u:= [111,103,103]) (ws:= [[111,103,103]]) (n:=1) (by decide) (by decide) (by decide+kernel) rfl (by decide) (show cJ (H.new _) from ht);have e:(decide (s= [97,112,112,108,105,99,97,116,105,111,110])&&decide (t∈ [[111,103,103]]))=(decide (s= [97,112,112,108,105,99,97,116,105,111,110])&&decide (t= [111,103,103])):=by simp
 rw [e]at h2;unfold Tg.Sn.isMedia;generalize (decide (s= [97,112,112,108,105,99,97,116,105,111,110])&&decide (t= [111,103,103]))=b2 at*;by_cases h1:s= [97,117,100,105,111]
 ·simp [h1]
 ·by_cases h3:s= [118,105,100,101,111]
  ·simp [h3]
  ·cases b2<;>simp [h1,h3,h2]
end
section
variable {H:LH} {s t:List UInt8} {pa:Option Addr} {pl pc:Nat} {h n g:Bool}
theorem nC (h:s.length+t.length<=1000000):LC Tryz.prog EJ 64 [uS s t (.slice pa pl pc)] H=some (str (s++47::t),H):=by
 have h1: ∀H:LH,LC Tryz.prog EJ 91 [uS s t (.slice pa pl pc)] H=some (str (s++47::t),H):=fun H=>by
  refine ag rfl Tryz.func91 rfl (Nat.le_of_ble_eq_true rfl) (by decide) (by kernel_rfl) rfl ?_;have q1:=eq_true (show s.length+1<=9223372036854775807 by omega);have q2:=eq_true (show s.length+1+t.length<=9223372036854775807 by omega);simp [q1,q2]
 refine ag rfl Tryz.func64 rfl (Nat.le_of_ble_eq_true rfl) (by decide) (by kernel_rfl) rfl ?_;generalize s++47::t=e at*;simp [h1]
theorem Cv:LC Tryz.prog EJ 106 [uS s t (.slice pa pl pc)] H=some (.bool (decide (s= [105,109,97,103,101])),H):=by
 refine ag rfl Tryz.func106 rfl (Nat.le_of_ble_eq_true rfl) (by decide) (by kernel_rfl) rfl ?_;simp
end
end Go.Proofs.YtbeoilidocfofaaGreatDoor.Sn
namespace Go.Lg
open Go.Tg Go.RowKit
def dz (N:Nat) (S:TypeId->Prop) (H H':LH):Prop:=H.n<=H'.n/\ ∀k b,k<H.n->H.get k=some b->k<N\/S b.elem->H'.get k=some b
structure El (α:Type) where
 n:Nat
 S:TypeId->Prop
 ok:Nat->LH->List Value->α->Prop
 len: ∀ {N H cs a},ok N H cs a->cs.length=n
 cell: ∀ {N H cs a},ok N H cs a->cs.all aC=true
 keep: ∀ {N H H' cs a},dz N S H H'->ok N H cs a->ok N H' cs a
 ro: ∀ {N H cs a},ok N H cs a->ok N H.ro cs a
def El.flat {α:Type} (n:Nat) (f:α->List Value) (h1: ∀a,(f a).length=n) (h2: ∀a,(f a).all aC=true):El α:=
 ⟨n,fun _=>False,fun _ _ cs a=>cs=f a,fun h=>by rw [h];exact h1 _,fun h=>by rw [h];exact h2 _,fun _ h=>h,fun h=>h⟩
def we:El (List UInt8):=El.flat 1 (fun a=> [str a]) (fun _=>rfl) (fun _=>by simp)
def bB {α:Type} (E:El α) (e:TypeId) (N:Nat) (H:LH) (v:Value) (l:List α):Prop:=
 (v=.slice none 0 0/\l= [])\/ ∃(k o c:Nat) (b:LB),v=.slice (some ⟨k,o,none⟩) l.length c/\H.get k=some b/\k<H.n/\(k<N\/b.elem=e)/\o+l.length*E.n<=b.cells.length/\ ∀(i:Nat) (h:i<l.length),E.ok N H ((b.cells.drop (o+i*E.n)).take E.n) l[i]
def bJ {α:Type} (E:El α) (e:TypeId) (N M:Nat) (H:LH) (v:Value) (l:List α):Prop:=
 ∃xs,bA M H e E.n v l.length xs/\ ∀(i:Nat) (h:i<l.length),E.ok N H ((xs.drop (i*E.n)).take E.n) l[i]
section
variable {α:Type} {E:El α} {P:Program} {H H' H1:LH} {v x:Value} {l:List α} {a:α} {e t u:TypeId} {N M k:Nat} {S S':TypeId->Prop} {b:LB} {cs:List Value}
theorem dz.refl:dz N S H H:=⟨Nat.le_refl _,fun _ _ _ h _=>h⟩
theorem dz.le (h:H.le H'):dz N S H H':=⟨h.1,fun k b hk hb _=>by rw [h.2 k hk];exact hb⟩
theorem dz.trans (h:dz N S H H1) (g:dz N S H1 H'):dz N S H H':=⟨Nat.le_trans h.1 g.1,fun k b hk hb hs=>g.2 k b (Nat.lt_of_lt_of_le hk h.1) (h.2 k b hk hb hs) hs⟩
theorem dz.weak (h:dz N S H H') (hs: ∀t,S' t->S t):dz N S' H H':=⟨h.1,fun k b hk hb g=>h.2 k b hk hb (g.imp_right (hs _))⟩
theorem dz.new:dz N S H (H.new b):=⟨Nat.le_succ _,fun k b hk hb _=>by rw [aa (by omega)];exact hb⟩
theorem bB.nil:bB E e N H (.slice none 0 0) []:=.inl ⟨rfl,rfl⟩
theorem bB.keep (h:bB E e N H v l) (hk:dz N (fun t=>t=e\/E.S t) H H'):bB E e N H' v l:=by
 rcases h with h|⟨k,o,c,b,h1,g1,g2,g3,g5,g4⟩
 ·exact .inl h
 ·exact .inr ⟨k,o,c,b,h1,hk.2 k b g2 g1 (g3.imp_right .inl),Nat.lt_of_lt_of_le g2 hk.1,g3,g5,fun i hi=>E.keep (hk.weak fun t=>.inr) (g4 i hi)⟩
theorem bB.le (h:bB E e N H v l) (hk:H.le H'):bB E e N H' v l:=h.keep (.le hk)
theorem bB.ro (h:bB E e N H v l):bB E e N H.ro v l:=by
 rcases h with h|⟨k,o,c,b,h1,g1,g2,g3,g5,g4⟩
 ·exact .inl h
 ·exact .inr ⟨k,o,c,{ b with rw:=false },h1,by rw [uf,g1];rfl,by rw [NB];exact g2,g3,g5,fun i hi=>E.ro (g4 i hi)⟩
theorem bB.keep1 {c:Nat} (h:bB E e N H v l) (hn:H.n<=H'.n) (hc:H.get c=some b) (hne:b.elem≠e) (hS: ¬E.S b.elem) (hN:N<=c) (hk: ∀k,k<H.n->k≠c->H'.get k=H.get k):bB E e N H' v l:=
 h.keep ⟨hn,fun k b' hkn hb hor=>by
  by_cases hkc:k=c
  ·subst hkc;rw [hc]at hb;injection hb with hb;subst hb;rcases hor with h1|h1|h1
   ·omega
   ·exact absurd h1 hne
   ·exact absurd h1 hS
  ·rw [hk k hkn hkc];exact hb⟩
theorem bB.slice (h:bB E e N H v l): ∃ad n c,v=.slice ad n c:=by
 rcases h with⟨rfl,_⟩|⟨k,o,c,b,rfl,_⟩<;>exact⟨_,_,_,rfl⟩
theorem bB.len (h:bB E e N H v l) (hu:P.underlying t=some (.slice e)):aI P .len [t] [v] H'=some (.int .i64 l.length,H'):=by
 rcases h with⟨rfl,rfl⟩|⟨k,o,c,b,rfl,h2⟩
 ·exact bf hu
 ·exact bf hu
theorem bB.cell (h:bB E e N H v l):aC v=true:=by
 obtain⟨ad,n,c,rfl⟩:=h.slice;simp
theorem bB.flat (h:bB E e N H v l) (hf:ao v=true):bB E e N H' v l:=by
 rcases h with h|⟨k,o,c,b,rfl,_⟩
 ·exact .inl h
 ·simp [ao,az,aA]at hf
theorem bB.at (h:bB E e N H v l) (hu:P.underlying t=some (.slice e)) (hs:sz P e=some E.n) {i:Nat} (hi:i<l.length): ∃k o cs,(∀H':LH,iu P t v (.int .i64 i) H'=some (ptr k o,H'))/\k<H.n/\E.ok N H cs l[i]/\ ∀H':LH,H'.get k=H.get k->
  (aF P e=some true->gI P e (ptr k o) H'=some (.agg cs.toArray))/\(∀(j:Nat) (u:TypeId) (x:Value),aF P u=some false->cs[j]?=some x->gI P u (ptr k (o+j)) H'=some x)/\(∀(j m:Nat) (u:TypeId),aF P u=some true->sz P u=some m->j+m<=E.n->gI P u (ptr k (o+j)) H'=some (.agg ((cs.drop j).take m).toArray)):=by
 rcases h with⟨rfl,rfl⟩|⟨k,o,c,b,rfl,g1,g2,g3,g0,g4⟩
 ·simp at hi
 ·have g6:=g4 i hi;have hm:i*E.n+E.n<=l.length*E.n:=by rw [<-Nat.succ_mul];exact Nat.mul_le_mul_right _ hi
  have g5:o+i*E.n+E.n<=b.cells.length:=by omega
  refine⟨k,o+i*E.n,_,fun H'=>?_,g2,g6,fun H' he=>?_⟩
  ·rw [sh hu hs (by omega) (by omega)];simp
  ·rw [g1]at he;refine⟨fun ha=>?_,fun j u x ha hx=>?_,fun j m u ha hm hj=>?_⟩
   ·rw [fk he,ha,hs,sc g5]
   ·rw [fk he,ha,hZ];rw [List.getElem?_take]at hx;split at hx
    ·rw [List.getElem?_drop]at hx;exact hx
    ·cases hx
   ·rw [fk he,ha,hm,sc (by omega),List.drop_take,List.take_take,List.drop_drop,Nat.min_eq_left (by omega)]
theorem bB.src (h:bB E e N H v l) (hu:P.underlying t=some (.slice e)) (hs:ax P e=some E.n): ∃xs,gJ P t v H=some (l.length,xs)/\xs.length=l.length*E.n/\xs.all aC=true/\ ∀(i:Nat) (h:i<l.length),E.ok N H ((xs.drop (i*E.n)).take E.n) l[i]:=by
 rcases h with⟨rfl,rfl⟩|⟨k,o,c,b,rfl,g1,g2,g3,g0,g4⟩
 ·exact⟨[],kB hu hs,by simp,rfl,fun i hi=>by simp at hi⟩
 ·have hi2: ∀(i:Nat) (h:i<l.length),((((b.cells.drop o).take (l.length*E.n)).drop (i*E.n)).take E.n)=(b.cells.drop (o+i*E.n)).take E.n:=fun i hi=>by
   have hm:i*E.n+E.n<=l.length*E.n:=by rw [<-Nat.succ_mul];exact Nat.mul_le_mul_right _ hi
   rw [List.drop_take,List.take_take,List.drop_drop,Nat.min_eq_left (by omega)]
  have hl:((b.cells.drop o).take (l.length*E.n)).length=l.length*E.n:=by rw [List.length_take,List.length_drop];omega
  refine⟨_,kC hu hs g1 g0,hl,?_,fun i hi=>by rw [hi2 i hi];exact g4 i hi⟩;rw [List.all_eq_true];intro x hx;obtain⟨q,hq,rfl⟩:=List.getElem_of_mem hx;rw [hl]at hq;have hn0:0<E.n:=by rcases Nat.eq_zero_or_pos E.n with h|h;rw [h]at hq;omega;exact h
  have hil:q/E.n<l.length:=by rw [Nat.div_lt_iff_lt_mul hn0];exact hq
  have hc:=E.cell (g4 _ hil);rw [<-hi2 _ hil,List.all_eq_true]at hc;refine hc _ ?_;have hd:q=q/E.n*E.n+q%E.n:=by rw [Nat.mul_comm];exact(Nat.div_add_mod q E.n).symm
  have hmod:q%E.n<E.n:=Nat.mod_lt _ hn0;have hm:q/E.n*E.n+E.n<=l.length*E.n:=by rw [<-Nat.succ_mul];exact Nat.mul_le_mul_right _ hil
  generalize (b.cells.drop o).take (l.length*E.n)=ys at*;rw [List.mem_iff_getElem];refine⟨q%E.n,by rw [List.length_take,List.length_drop];omega,?_⟩;rw [List.getElem_take,List.getElem_drop];congr 1;exact hd.symm
theorem bJ.nil:bJ E e N M H (.slice none 0 0) []:=⟨[],bA.nil,fun i h=>by simp at h⟩
theorem bJ.row (h:bJ E e N M H v l):bB E e N H v l:=by
 obtain⟨xs,h1,h2⟩:=h;have hl:=h1.1;rcases h1.2 with⟨rfl,h0⟩|⟨k,c,rest,rfl,g1,g2,g3,g4,g5⟩
 ·exact .inl ⟨rfl,List.eq_nil_of_length_eq_zero h0⟩
 ·refine .inr ⟨k,0,c,_,rfl,g3,g2,.inr rfl,by rw [List.length_append,hl];omega,fun i hi=>?_⟩;have hm:i*E.n+E.n<=l.length*E.n:=by rw [<-Nat.succ_mul];exact Nat.mul_le_mul_right _ hi
  simp only [Nat.zero_add];rw [List.drop_append_of_le_length (by omega),List.take_append_of_le_length (by rw [List.length_drop];omega)];exact h2 i hi
theorem bJ.off_lt (h:bJ E e N M H v l) (hk:k<M):ay v k:=by obtain⟨xs,h1,_⟩:=h;exact h1.off_lt hk
theorem bJ.off_elem (h:bJ E e N M H v l) (hk:H.get k=some b) (hne:b.elem≠e):ay v k:=by obtain⟨xs,h1,_⟩:=h;exact h1.off_of_elem hk hne
theorem bJ.off_ge (h:bJ E e N M H v l) (hk:H.n<=k):ay v k:=by obtain⟨xs,h1,_⟩:=h;exact h1.off_ge hk
theorem bJ.keep (h:bJ E e N M H v l) (hk:dz N E.S H H') (hr: ∀k,M<=k-> ¬ay v k->k<H.n->H'.get k=H.get k):bJ E e N M H' v l:=by
 obtain⟨xs,h1,h2⟩:=h;exact⟨xs,h1.keep hk.1 hr,fun i hi=>E.keep hk (h2 i hi)⟩
theorem bJ.le (h:bJ E e N M H v l) (hk:H.le H'):bJ E e N M H' v l:=h.keep (.le hk) fun k _ _ hk2=>hk.2 k hk2
theorem bJ.keep1 {c:Nat} (h:bJ E e N M H v l) (hn:H.n<=H'.n) (hc:H.get c=some b) (hne:b.elem≠e) (hS: ¬E.S b.elem) (hN:N<=c) (hk: ∀k,k<H.n->k≠c->H'.get k=H.get k):bJ E e N M H' v l:=
 h.keep ⟨hn,fun k b' hkn hb hor=>by
  by_cases hkc:k=c
  ·subst hkc;rw [hc]at hb;injection hb with hb;subst hb;rcases hor with h1|h1
   ·omega
   ·exact absurd h1 hS
  ·rw [hk k hkn hkc];exact hb⟩ fun k _ hno hkn=>hk k hkn fun e=>hno (e▸h.off_elem hc hne)
theorem bJ.cell (h:bJ E e N M H v l):aC v=true:=by obtain⟨xs,h1,_⟩:=h;exact h1.cell
theorem bJ.weak {M':Nat} (h:bJ E e N M H v l) (hm:M'<=M):bJ E e N M' H v l:=by
 obtain⟨xs,h1,h2⟩:=h;refine⟨xs,⟨h1.1,?_⟩,h2⟩;rcases h1.2 with h3|⟨k,c,rest,rfl,g1,g2⟩
 ·exact .inl h3
 ·exact .inr ⟨k,c,rest,rfl,Nat.le_trans hm g1,g2⟩
theorem bJ.flat (h:bJ E e N M H' v l) (hf:ao v=true):bJ E e N M H v l:=by
 obtain⟨xs,h1,h2⟩:=h;rcases h1.2 with⟨rfl,h0⟩|⟨k,c,rest,rfl,_⟩
 ·obtain rfl:=List.eq_nil_of_length_eq_zero h0;exact .nil
 ·simp [ao,az,aA]at hf
theorem bJ.app (h:bJ E e N M H v l) (hu:P.underlying t=some (.slice e)) (hs:ax P e=some E.n) (hN:N<=M) (hM:M<=H.n) (hl:l.length+1<=aH) (hc:E.ok N H cs a) (hS: ¬E.S e):
  ∃v' H2,eJ P t v (some (1,cs)) (H.new ⟨cs,e,true⟩)=some (v',H2)/\bJ E e N M H2 v' (l++ [a])/\H.n<H2.n/\(∀k,k<H.n->ay v k->H2.get k=H.get k)/\(∀k,k<H.n->ay v k->ay v' k)/\dz N (fun t=>t≠e) H H2:=by
 have h':=h.le (H':=H.new ⟨cs,e,true⟩) le_refl.new;have hc':=E.keep (.le (H':=H.new ⟨cs,e,true⟩) le_refl.new) hc;obtain⟨xs,h1,h2⟩:=h';obtain⟨v',H2,ha,hr,hk,hf⟩:=bA.app (P:=P) (t:=t) (new:=cs) (m:=1) h1 hu hs (E.cell hc) (by rw [E.len hc,Nat.one_mul]) hl (by rw [aL];omega) (.inl (Nat.le_refl 1))
 have kp:dz N (fun t=>t≠e) (H.new ⟨cs,e,true⟩) H2:=⟨hk.le,fun k b hkn hb hor=>by
  rw [<-hb];refine hk.get k hkn ?_;rcases hor with hor|hor
  ·exact h1.off_lt (by omega)
  ·exact h1.off_of_elem hb hor⟩
 refine⟨v',H2,ha,⟨xs++cs,by rw [List.length_append];exact hr,fun i hi=>?_⟩,?_,fun k hkn ho=>?_,fun k hkn ho=>hk.off k (by rw [aL];omega) ho,dz.new.trans kp⟩
 ·have kS:dz N E.S (H.new ⟨cs,e,true⟩) H2:=kp.weak fun t ht he=>hS (he▸ht);have hxl:xs.length=l.length*E.n:=h1.1;rcases Nat.lt_or_ge i l.length with hil|hil
  ·have hm:i*E.n+E.n<=l.length*E.n:=by rw [<-Nat.succ_mul];exact Nat.mul_le_mul_right _ hil
   rw [List.drop_append_of_le_length (by omega),List.take_append_of_le_length (by rw [List.length_drop];omega),List.getElem_append_left hil];exact E.keep kS (h2 i hil)
  ·have hie:i=l.length:=by rw [List.length_append]at hi;simp at hi;omega
   subst hie;rw [<-hxl,List.drop_left,List.take_of_length_le (by rw [E.len hc];exact Nat.le_refl _),List.getElem_append_right (by omega)];simpa using E.keep kS hc'
 ·have:=hk.le;rw [aL]at this;omega
 ·rw [hk.get k (by rw [aL];omega) ho,aa (by omega)]
end
section
variable {α:Type} {E:El α} {P:Program} {H H':LH} {v w:Value} {l:List α} {e t:TypeId} {N M:Nat}
theorem bJ.copy (h:bB E e N H w l) (hu:P.underlying t=some (.slice e)) (hs:ax P e=some E.n) (hl:l.length<=aH) (hM:M<=H.n):
  ∃v' H2,eJ P t (sl H.n 0 0) (gJ P t w (H.new ⟨[],e,true⟩)) (H.new ⟨[],e,true⟩)=some (v',H2)/\bJ E e N M H2 v' l/\H.le H2:=by
 have h':=h.le (H':=H.new ⟨[],e,true⟩) le_refl.new;obtain⟨xs,x1,x2,x3,x4⟩:=h'.src hu hs;have h1:bA H.n (H.new ⟨[],e,true⟩) e E.n (sl H.n 0 0) 0 []:=⟨by simp,.inr ⟨H.n,0,[],rfl,Nat.le_refl _,by simp,by simp,Nat.le_refl _,by simp⟩⟩
 obtain⟨v',H2,ha,hr,hk,hf⟩:=bA.app (P:=P) (t:=t) (new:=xs) (m:=l.length) h1 hu hs x3 x2 (by omega) (by rw [aL];omega) (.inr jF);rw [x1];have hle:H.le H2:=⟨by have:=hk.le;rw [aL]at this;omega,fun k hkn=>by rw [hk.get k (by rw [aL];omega) (h1.off_lt hkn),aa (by omega)]⟩
 refine⟨v',H2,ha,⟨xs,?_,fun i hi=>?_⟩,hle⟩
 ·rw [Nat.zero_add,List.nil_append]at hr;refine⟨hr.1,?_⟩;rcases hr.2 with h2|⟨k,c,rest,rfl,g1,g2,g3,g4,g5⟩
  ·exact .inl h2
  ·exact .inr ⟨k,c,rest,rfl,by omega,g2,g3,g4,g5⟩
 ·obtain⟨ys,y1,y2,y3,y4⟩:=h.src hu hs
  have hxy:gJ P t w (H.new ⟨[],e,true⟩)=gJ P t w H:=by
   rcases h with⟨rfl,rfl⟩|⟨k,o,c,b,rfl,g1,g2,g3,g0,g4⟩
   ·rw [kB hu hs,kB hu hs]
   ·rw [kC hu hs g1 g0,kC hu hs (by rw [aa (by omega)];exact g1) g0]
  rw [hxy,y1]at x1;injection x1 with x1;injection x1 with _ x1;subst x1;exact E.keep (.le hle) (y4 i hi)
end
section
variable {P:Program} {E:Ext} {f:FuncId} {args:List Value} {H H':LH}
def fv (P:Program) (E:Ext) (f:FuncId) (args:List Value) (H:LH) (R:LH->Value->Prop):Prop:= ∃v H',LC P E f args H=some (v,H')/\H.le H'/\R H' v
theorem cI {R:LH->Value->Prop} (h: ∃r,LC P E f args H=some (trunc H r)/\(H.le r.2/\R r.2 r.1)) (hf: ∀v H',ao v=true->R H' v->R H v):fv P E f args H R:=by
 obtain⟨⟨v,H'⟩,h1,h2,h3⟩:=h;rcases cm v H H' with e|⟨e,g,_⟩
 ·exact⟨v,H',by rw [h1,e],h2,h3⟩
 ·exact⟨v,H,by rw [h1,e],le_refl,hf v H' g h3⟩
end
end Go.Lg
namespace Tg.Mi
def trimP (s:List UInt8):List UInt8:=(back tab s).drop (while_ tab (back tab s))
def cutQ:Nat->List UInt8->List UInt8->List (List UInt8)
 |0,_,acc=> [acc]
 |_+1,[],acc=> [acc]
 |n+1,b::r,acc=>if b=34 then cutQ n (r.drop (coll r).2.2) (acc++34::(coll r).2.1)else if b=44 then acc::cutQ n r []else cutQ n r (acc++ [b])
def splitP (s:List UInt8):List (List UInt8):=(cutQ s.length s []).map trimP
theorem cutQ_fuel: ∀(n m:Nat) (x acc:List UInt8),x.length<=n->x.length<=m->cutQ n x acc=cutQ m x acc
 |0,0,_,_,_,_=>rfl
 |0,m+1,x,acc,h,_=>by
  have:x= []:=List.eq_nil_of_length_eq_zero (by omega);subst this;rfl
 |n+1,0,x,acc,_,h=>by
  have:x= []:=List.eq_nil_of_length_eq_zero (by omega);subst this;rfl
 |n+1,m+1,[],acc,_,_=>rfl
 |n+1,m+1,b::r,acc,h1,h2=>by
  simp only [List.length_cons]at h1 h2;have hd:(r.drop (coll r).2.2).length<=r.length:=by rw [List.length_drop];omega
  unfold cutQ;rw [cutQ_fuel n m (r.drop (coll r).2.2) _ (by omega) (by omega),cutQ_fuel n m r [] (by omega) (by omega),cutQ_fuel n m r (acc++ [b]) (by omega) (by omega)]
theorem F2: ∀k:Fin 256,(Go.Lib.indexByte [34,44] (UInt8.ofNat k.1)<0↔UInt8.ofNat k.1≠34/\UInt8.ofNat k.1≠44):=by decide+kernel
theorem comma_iff (b:UInt8):Go.Lib.indexByte [34,44] b<0↔b≠34/\b≠44:=by
 have h:=F2 ⟨b.toNat,b.toNat_lt⟩;simpa using h
theorem cutQ_until: ∀(x acc:List UInt8) (n:Nat),x.length<=n->cutQ n x acc=cutQ n (x.drop (until_ [34,44] x)) (acc++x.take (until_ [34,44] x))
 | [],acc,n,_=>by simp [until_]
 |b::r,acc,n,hn=>by
  by_cases h:Go.Lib.indexByte [34,44] b<0
  ·obtain⟨h1,h2⟩:=(comma_iff b).1 h
   have e:until_ [34,44] (b::r)=until_ [34,44] r+1:=by
    conv=>lhs;unfold until_
    rw [if_pos h]
   obtain⟨m,rfl⟩: ∃m,n=m+1:=⟨n-1,by simp at hn;omega⟩
   rw [e,List.drop_succ_cons,List.take_succ_cons];simp only [List.length_cons]at hn;have hd:(r.drop (until_ [34,44] r)).length<=r.length:=by rw [List.length_drop];omega
   conv=>lhs;unfold cutQ
   rw [if_neg h1,if_neg h2,cutQ_until r (acc++ [b]) m (by omega),cutQ_fuel m (m+1) _ _ (by omega) (by omega)];simp
  ·have e:until_ [34,44] (b::r)=0:=by
    conv=>lhs;unfold until_
    rw [if_neg h]
   rw [e];simp
theorem coll_all: ∀x:List UInt8,(coll x).2.1=x.take (coll x).2.2
 | []=>by simp [coll]
 |b::r=>by
  unfold coll;split
  ·rename_i h;subst h;rfl
  ·split
   ·rename_i h;subst h;cases r with
    |nil=>rfl
    |cons c r'=>
     have:=coll_all r';simp only [List.take_succ_cons,<-this]
   ·have:=coll_all r;simp only [List.take_succ_cons,<-this]
theorem until_stopG {t:List UInt8} : ∀ {x:List UInt8} {b:UInt8} {r:List UInt8},x.drop (until_ t x)=b::r-> ¬Go.Lib.indexByte t b<0
 | [],b,r,h=>by simp [until_]at h
 |a::y,b,r,h=>by
  unfold until_ at h;split at h
  ·exact until_stopG (x:=y) (by simpa using h)
  ·rename_i hn;simp only [List.drop_zero,List.cons.injEq]at h;obtain⟨rfl,_⟩:=h;exact hn
end Tg.Mi
namespace Go.Proofs.YtbeoilidocfofaaGreatDoor
open Go.Lg Go.Tg
section
variable {H H':LH} {N b c:Nat} {t:List UInt8} {v:Value}
theorem Bld.keep1 (h:Bld N H b t v) (hn:H.n<=H'.n) (hne:b≠c) (ho:ay v c) (hk: ∀k,k<H.n->k≠c->H'.get k=H.get k):Bld N H' b t v:=by
 obtain⟨p,hg,hp⟩:=h.get;exact⟨⟨p,by rw [hk b h.lt hne];exact hg,hp⟩,h.row.keep hn fun k _ hno hkn=>hk k hkn (fun e=>hno (e▸ho)),h.full,h.off,Nat.lt_of_lt_of_le h.lt hn,Nat.le_trans h.N hn,h.nil⟩
theorem Bld.off_of {B:LB} (h:Bld N H b t v) (hg:H.get c=some B) (hne:B.elem≠5):ay v c:=h.row.off_of_elem hg hne
end
end Go.Proofs.YtbeoilidocfofaaGreatDoor
namespace Go.Proofs.YtbeoilidocfofaaGreatDoor.Mi
open Go.Lg Go.Tg
section
variable {H H':LH} {N M b c l i:Nat} {s t:List UInt8} {v w p:Value} {xs:List (List UInt8)}
theorem F3 (hg:H.get b=some ⟨[p,v],180,true⟩) (hb:b<H.n):LC Tryz.prog EJ 180 [ptr b 0] H=some (.tuple #[],H.set b ⟨[.pointer none,.slice none 0 0],180,true⟩):=by
 obtain⟨r,h,e⟩:=aD (P:=Tryz.prog) (E:=EJ) (f:=180) rfl Tryz.func180 rfl (Nat.le_of_ble_eq_true rfl) (by decide) (by kernel_rfl) (H:=H) (args:= [ptr b 0]) (Q:=fun r=>r=(.tuple #[],H.set b ⟨[.pointer none,.slice none 0 0],180,true⟩)) (by simp [hg]);rw [h,e,kE hg hb]
theorem gu {N':Nat} {α:Type} {E:El α} {e:TypeId} {zs:List α} (h:bJ E e N M H w zs) (hb:Bld N' H b t v) (hne:e≠5) {k:Nat} (hk: ¬ay w k):ay v k:=by
 obtain⟨xs,h1,_⟩:=h;rcases h1.2 with⟨rfl,_⟩|⟨k',c',rest,rfl,_,_,g,_⟩
 ·exact absurd df hk
 ·by_cases e2:k=k'
  ·subst e2;exact hb.off_of g hne
  ·exact absurd (fun n c e=>e2 (by injection e with e;injection e with e;injection e with e;exact e.symm)) hk
end
end Go.Proofs.YtbeoilidocfofaaGreatDoor.Mi
namespace Tg.Mi
abbrev Par:=List UInt8×List UInt8
structure Mim where
 t:List UInt8
 s:List UInt8
 ps:List Par
deriving DecidableEq
def tokenP (s:List UInt8):Bool:=decide (s≠ [])&&s.all Tg.Hd.tok
def quo (b:UInt8):Bool:=decide ((b.toNat:Int)=9)||(decide (32<=(b.toNat:Int))&&decide ((b.toNat:Int)<=126))||decide (128<=(b.toNat:Int))
def fnd (name:List UInt8):List Par->Nat->Int
 | [],_=> -1
 |p::l,i=>if p.1=name then i else fnd name l (i+1)
theorem fnd_ge (name:List UInt8): ∀(l:List Par) (i:Nat),fnd name l i= -1\/ ∃j:Nat,fnd name l i=((i+j:Nat):Int)/\j<l.length/\ ∀(h:j<l.length),l[j].1=name
 | [],i=>.inl rfl
 |p::l,i=>by
  unfold fnd;by_cases h:p.1=name
  ·rw [if_pos h];exact .inr ⟨0,by simp,by simp,fun _=>h⟩
  ·rw [if_neg h];rcases fnd_ge name l (i+1)with h2|⟨j,h2,h3,h4⟩
   ·exact .inl h2
   ·refine .inr ⟨j+1,?_,by simpa using h3,fun _=>by simpa using h4 h3⟩;rw [h2];congr 1;omega
def parP (x:List UInt8):Par×Bool×Nat:=
 match x.drop (while_ white x+until_ [59,61] (x.drop (while_ white x)))with
 |61::y=>if y= []then((Tg.Lo.lower ((x.drop (while_ white x)).take (until_ [59,61] (x.drop (while_ white x)))),[]),false,while_ white x+until_ [59,61] (x.drop (while_ white x))+1)
   else((Tg.Lo.lower ((x.drop (while_ white x)).take (until_ [59,61] (x.drop (while_ white x)))),(valP y).1),(valP y).2.1&&(tokenP (Tg.Lo.lower ((x.drop (while_ white x)).take (until_ [59,61] (x.drop (while_ white x)))))&&(valP y).1.all quo),while_ white x+until_ [59,61] (x.drop (while_ white x))+1+(valP y).2.2)
 |_=>((Tg.Lo.lower ((x.drop (while_ white x)).take (until_ [59,61] (x.drop (while_ white x)))),[]),false,while_ white x+until_ [59,61] (x.drop (while_ white x)))
theorem F4 (x:List UInt8):(valP x).2.2<=x.length:=by
 unfold valP;split
 ·rename_i r;have h1:=coll_le r;have h2:=until_le [59] (r.drop (coll r).2.2);rw [List.length_drop]at h2;simp only [List.length_cons,xV];omega
 ·exact until_le [59] x
theorem nD: ∀x:List UInt8,(coll x).1.length<=x.length
 | []=>by simp [coll]
 |b::r=>by
  unfold coll;split
  ·simp
  ·split
   ·cases r with
    |nil=>simp
    |cons c r'=>have:=nD r';simp;omega
   ·have:=nD r;simp;omega
theorem valP_len (x:List UInt8):(valP x).1.length<=x.length:=by
 unfold valP;split
 ·rename_i r;have:=nD r;simp only [List.length_cons];omega
 ·have:=back_le white (x.take (xV x));rw [List.length_take]at this;simp only;omega
theorem parP_le (x:List UInt8):(parP x).2.2<=x.length:=by
 have h1:=while_le white x;have h2:=until_le [59,61] (x.drop (while_ white x));rw [List.length_drop]at h2;unfold parP;split
 ·rename_i y hy;have h3:=congrArg List.length hy;rw [List.length_drop,List.length_cons]at h3;split
  ·simp only;omega
  ·have:=F4 y;simp only;omega
 ·simp only;omega
end Tg.Mi
namespace Go.Proofs.YtbeoilidocfofaaGreatDoor.Mi
open Go.Lg Go.Tg
abbrev MN (p:Tg.Mi.Par):Value:=.agg #[str p.1,str p.2]
abbrev mv (t u:List UInt8) (v:Value):Value:=.agg #[str t,str u,v]
def ln:El Tg.Mi.Par:=El.flat 2 (fun a=> [str a.1,str a.2]) (fun _=>rfl) (fun _=>by simp)
section
variable {H H':LH} {N M b c l i p:Nat} {s t u name:List UInt8} {v w:Value} {ps:List Tg.Mi.Par} {a:Tg.Mi.Par}
theorem szP:sz Tryz.prog 229=some ln.n:=by kernel_rfl
theorem jS (hs:s.length<=1000000):LC Tryz.prog EJ 252 [str s] H=some (.bool (Tg.Mi.tokenP s),H):=by
 refine ag rfl Tryz.func252 rfl (Nat.le_of_ble_eq_true rfl) (by decide) (by kernel_rfl) rfl ?_;have h1:=fun H:LH=>HZ (H:=H) (s:=s) (g:=282) (p:=Tg.Hd.tok) (fun H b=>BK) hs;unfold Tg.Mi.tokenP;by_cases h:s= []
 ·subst h;simp
 ·simp [h,h1]
theorem Cw {b:UInt8} :LC Tryz.prog EJ 258 [.int .u8 b.toNat] H=some (.bool (Tg.Mi.quo b),H):=by
 refine ag rfl Tryz.func258 rfl (Nat.le_of_ble_eq_true rfl) (by decide) (by kernel_rfl) rfl ?_;unfold Tg.Mi.quo;by_cases a1:(b.toNat:Int)=9
 ·simp [a1]
 ·by_cases a2:32<=(b.toNat:Int)
  ·by_cases a3:(b.toNat:Int)<=126
   ·have a1:=eq_false a1;have a2:=eq_true a2;have a3:=eq_true a3;simp [a1,a2,a3]
   ·have a1:=eq_false a1;have a2:=eq_true a2;have a3:=eq_false a3;simp [a1,a2,a3]
  ·have a1:=eq_false a1;have a2:=eq_false a2;simp [a1,a2]
theorem uU (hs:s.length<=1000000):LC Tryz.prog EJ 257 [str s,.func (.func 258) #[] #[]] H=some (.bool (s.all Tg.Mi.quo),H):=HZ (fun H b=>Cw) hs
theorem kN:(Tg.Lo.lower s).length=s.length:=by simp [Tg.Lo.lower]
theorem jT (hs:s.length<=1000000):LC Tryz.prog EJ 250 [str s] H=some (str (Tg.Lo.lower s),H):=by
 refine ag rfl Tryz.func250 rfl (Nat.le_of_ble_eq_true rfl) (by decide) (by kernel_rfl) rfl ?_;have h1:=fun H:LH=>EW (H:=H) (s:=s) (by unfold maxLen;omega);simp [h1]
theorem uV (hr:bB ln 229 N H v ps) {i:Nat} (hi:i<ps.length): ∃k o,(∀H':LH,iu Tryz.prog 68 v (.int .i64 i) H'=some (ptr k o,H'))/\k<H.n/\ ∀H':LH,H'.get k=H.get k->
  gI Tryz.prog 229 (ptr k o) H'=some (MN ps[i])/\gI Tryz.prog 9 (ptr k o) H'=some (str ps[i].1)/\gI Tryz.prog 9 (ptr k (o+1)) H'=some (str ps[i].2):=by
 obtain⟨k,o,cs,h1,h2,h3,h4⟩:=hr.at (P:=Tryz.prog) (t:=68) Tryz.underlying68 szP hi;have h3:cs= [str ps[i].1,str ps[i].2]:=h3;subst h3;refine⟨k,o,h1,h2,fun H' he=>?_⟩;obtain⟨g1,g2,_⟩:=h4 H' he;exact⟨g1 (by kernel_rfl),g2 0 _ _ (by kernel_rfl) rfl,g2 1 _ _ (by kernel_rfl) rfl⟩
theorem F5 (hg:H.get p=some ⟨[str name],9,true⟩) (hp:p<H.n):LC Tryz.prog EJ 285 [MN a,ptr p 0] H=some (.bool (decide (a.1=name)),H):=by
 refine ag rfl Tryz.func285 rfl (Nat.le_of_ble_eq_true rfl) (by decide) (by kernel_rfl) rfl ?_;have hne:=eq_false (show¬p=H.n by omega);simp [hg,hne,le_refl.new]
theorem Cx (hr:bB ln 229 N H v ps) (hl:ps.length<=1000000) (hg:H.get p=some ⟨[str name],9,true⟩) (hp:p<H.n):LC Tryz.prog EJ 284 [v,.func (.func 285) #[] #[ptr p 0]] H=some (.int .i64 (Tg.Mi.fnd name ps 0),H):=by
 refine ag rfl Tryz.func284 rfl (Nat.le_of_ble_eq_true rfl) (by decide) (by kernel_rfl) (by simp) ?_;obtain⟨x,hx⟩: ∃x,x=Tg.Mi.fnd name ps 0:=⟨_,rfl⟩
 rw [<-hx];have hlen:=fun H':LH=>hr.len (P:=Tryz.prog) (t:=68) (H':=H') Tryz.underlying68;simp [hlen];refine aK (fun(i:Nat) fr' H'=>fr' 0=v/\fr' 1=.func (.func 285) #[] #[ptr p 0]/\fr' 7=.int .i64 ps.length/\fr' 8=.int .i64 i/\i<=ps.length/\x=Tg.Mi.fnd name (ps.drop i) i/\H'=H) (fun i=>ps.length-i) 0 ⟨by simp,by simp,by simp,by simp,Nat.zero_le _,hx,rfl⟩ ?_;rintro i fr' H' ⟨h0,h1,h7,h8,hi,hc,rfl⟩ ih;by_cases hlt:i<ps.length
 ·have q:=eq_true (show(i:Int)<(ps.length:Int) by omega);have hw:IntKind.i64.wrap ((i:Int)+1)=((i+1:Nat):Int):=by rw [wrapI (by omega) (by omega)];omega
  obtain⟨k,o,g1,g2,g3⟩:=uV hr hlt;obtain⟨g4,_,_⟩:=g3 H' rfl;have ho:=fun a=>F5 (H:=H') (p:=p) (name:=name) (a:=a) hg hp;rw [List.drop_eq_getElem_cons hlt]at hc;generalize ps[i]=a at*;unfold Tg.Mi.fnd at hc;by_cases hf:a.1=name
  ·rw [if_pos hf]at hc;have hf:=eq_true hf;subst hc;simp [h0,h1,h7,h8,q,hlt,g1,g4,ho,hf]
  ·rw [if_neg hf]at hc;have hf:=eq_false hf;simp [h0,h1,h7,h8,q,hlt,g1,g4,ho,hf];refine ih (i+1) _ _ (by omega) ⟨?_,?_,?_,?_,by omega,hc,rfl⟩
   all_goals simp [h0,h1,h7,hw]
 ·have q:=eq_false (show¬(i:Int)<(ps.length:Int) by omega);rw [List.drop_of_length_le (by omega)]at hc;have hc:x= -1:=hc;subst hc;simp [h0,h1,h7,h8,q,hlt]
theorem lV (hr:bB ln 229 N H v ps) (hl:ps.length<=1000000):LC Tryz.prog EJ 254 [mv t u v,str name] H=some (.int .i64 (Tg.Mi.fnd name ps 0),H):=by
 refine ag rfl Tryz.func254 rfl (Nat.le_of_ble_eq_true rfl) (by decide) (by kernel_rfl) rfl ?_;have hcv:=hr.cell;obtain⟨Hb,hHb⟩: ∃Hb,Hb=(H.new ⟨[str t,str u,v],70,true⟩).new ⟨[str name],9,true⟩:=⟨_,rfl⟩
 have hle:H.le Hb:=by rw [hHb];exact le_refl.new.new
 have h1:=Cx (H:=Hb) (p:=H.n+1) (name:=name) (hr.le hle) hl (by rw [hHb];exact ak) (by rw [hHb,aL,aL];omega);rw [hHb]at h1;have d1:(H.n=H.n+1)=False:=eq_false (by omega);simp [hcv,h1,d1,le_refl.new.new]
end
section
variable {H H':LH} {N M b c l i p:Nat} {s t u name:List UInt8} {v w:Value} {ps:List Tg.Mi.Par} {a:Tg.Mi.Par}
theorem K3 (hk:H.get l=some (cu s i)) (hl:l<H.n) (hi:i<=s.length) (hs:s.length<=100000):
  ∃H',LC Tryz.prog EJ 283 [ptr l 0] H=some (.tuple #[str (Tg.Mi.valP (s.drop i)).1,.bool (Tg.Mi.valP (s.drop i)).2.1],H')/\OutC H l s (i+(Tg.Mi.valP (s.drop i)).2.2) H':=by
 have hd:(s.drop i).length=s.length-i:=List.length_drop;by_cases hq:(s.drop i).head?=some 34
 ·obtain⟨r,hr⟩: ∃r,s.drop i=34::r:=by
   cases hx:s.drop i with
   |nil=>rw [hx]at hq;simp at hq
   |cons b r=>rw [hx]at hq;simp at hq;subst hq;exact⟨r,rfl⟩
  have hlt:i<s.length:=by rw [hr]at hd;simp at hd;omega
  have h2:=List.drop_eq_getElem_cons hlt;rw [hr]at h2;injection h2 with h3 h4;have hcl:=Tg.Mi.coll_le r;have hrl:r.length+1=s.length-i:=by rw [hr]at hd;simpa using hd
  obtain⟨H1,e1,o1⟩:=OL hk hl hlt hs h3.symm (by rw [<-h4];omega);rw [<-h4]at e1 o1;rw [hr];refine⟨H1,e1,?_⟩;have hdd:s.drop (i+1+(Tg.Mi.coll r).2.2)=r.drop (Tg.Mi.coll r).2.2:=by rw [<-List.drop_drop,<-h4]
  rw [hdd]at o1;show OutC H l s (i+(1+(Tg.Mi.coll r).2.2+Tg.Mi.until_ [59] (r.drop (Tg.Mi.coll r).2.2))) H1;rw [show i+(1+(Tg.Mi.coll r).2.2+Tg.Mi.until_ [59] (r.drop (Tg.Mi.coll r).2.2))=i+1+(Tg.Mi.coll r).2.2+Tg.Mi.until_ [59] (r.drop (Tg.Mi.coll r).2.2) by omega];exact o1
 ·obtain⟨H1,e1,o1⟩:=OM hk hl hi hs hq
  have hv:Tg.Mi.valP (s.drop i)=(Tg.Mi.back Tg.Mi.white ((s.drop i).take (Tg.Mi.until_ [59] (s.drop i))),decide (Tg.Mi.back Tg.Mi.white ((s.drop i).take (Tg.Mi.until_ [59] (s.drop i)))≠ []),Tg.Mi.until_ [59] (s.drop i)):=by
   unfold Tg.Mi.valP;split
   ·rename_i r hr;rw [hr]at hq;simp at hq
   ·rfl
  rw [hv];exact⟨H1,e1,o1⟩
theorem nE {a:List UInt8} :bG Tryz.prog 229 [str [],str []] [(0,str a)]=some [str a,str []]:=by
 rw [aB (o:=0) (n:=1) (g:=false) (by simp) rfl (by simp) (by simp)];simp
theorem OutC.le_trans {j j':Nat} {H1:LH} (h:OutC H l s j H1) (g:OutC H1 l s j' H'):OutC H l s j' H':=⟨g.get,Nat.le_trans h.n g.n,fun k hk hne=>by rw [g.old k (Nat.lt_of_lt_of_le hk h.n) hne,h.old k hk hne]⟩
theorem Cy (hk:H.get l=some (cu s i)) (hl:l<H.n) (hi:i<=s.length) (hs:s.length<=100000):
  ∃H',LC Tryz.prog EJ 253 [ptr l 0] H=some (.tuple #[MN (Tg.Mi.parP (s.drop i)).1,.bool (Tg.Mi.parP (s.drop i)).2.1],H')/\OutC H l s (i+(Tg.Mi.parP (s.drop i)).2.2) H':=by
 have key: ∃r,LC Tryz.prog EJ 253 [ptr l 0] H=some (Lg.trunc H r)/\r.1=.tuple #[MN (Tg.Mi.parP (s.drop i)).1,.bool (Tg.Mi.parP (s.drop i)).2.1]/\OutC H l s (i+(Tg.Mi.parP (s.drop i)).2.2) r.2:=by
  refine aD (P:=Tryz.prog) (E:=EJ) (f:=253) rfl Tryz.func253 rfl (Nat.le_of_ble_eq_true rfl) (by decide) (by kernel_rfl) ?_;have hwl:=Tg.Mi.while_le Tg.Mi.white (s.drop i);have hul:=Tg.Mi.until_le [59,61] ((s.drop i).drop (Tg.Mi.while_ Tg.Mi.white (s.drop i)));have hd:(s.drop i).length=s.length-i:=List.length_drop;rw [List.length_drop]at hul;have hne:l≠H.n:=by omega
  have hp:Tg.Mi.parP (s.drop i)=Tg.Mi.parP (s.drop i):=rfl
  conv at hp=>rhs;unfold Tg.Mi.parP
  rw [hp];clear hp;have e1:=fO (H:=H.new ⟨[str [],str []],229,true⟩) (g:=144) (p:=Tg.Mi.white) (fun H b=>qk) (by rw [aa hne];exact hk) (by rw [aL];omega) hi (by omega);have e2:=dK (H:=(H.new ⟨[str [],str []],229,true⟩).set l (cu s (i+Tg.Mi.while_ Tg.Mi.white (s.drop i)))) (t:= [59,61]) aw (by rw [cG,aL];omega) (by omega) (by omega);simp only [List.drop_drop]at e2 hul⊢;generalize Tg.Mi.while_ Tg.Mi.white (s.drop i)=w0 at*;generalize hx:s.drop (i+w0)=x at*;generalize hu0:Tg.Mi.until_ [59,61] x=u0 at*;have e3:=fun H:LH=>jT (H:=H) (s:=x.take u0) (by rw [List.length_take];omega);have hnl:(x.take u0).length<=100000:=by rw [List.length_take];omega
  rw [show i+(w0+u0)=i+w0+u0 by omega];rw [set_set]at e2;obtain⟨H2,hH2⟩: ∃H2,H2=(H.new ⟨[str [],str []],229,true⟩).set l (cu s (i+w0+u0)):=⟨_,rfl⟩
  have e2':=e2;have hn2:H2.n=H.n+1:=by rw [hH2];rfl
  have g2:H2.get l=some (cu s (i+w0+u0)):=by rw [hH2,aw]
  have g2p:H2.get H.n=some ⟨[str [],str []],229,true⟩:=by rw [hH2,ah (by omega),ak]
  have o2: ∀k,k<H.n->k≠l->H2.get k=H.get k:=fun k hk2 hne2=>by rw [hH2,ah hne2,aa (by omega)]
  have hnml:(Tg.Lo.lower (x.take u0)).length<=100000:=by rw [kN];exact hnl
  generalize Tg.Lo.lower (x.take u0)=nm at*;obtain⟨H3,hH3⟩: ∃H3,H3=H2.new ⟨[str nm,str []],229,true⟩:=⟨_,rfl⟩
  have hn3:H3.n=H.n+1+1:=by rw [hH3,aL,hn2]
  have g3:H3.get l=some (cu s (i+w0+u0)):=by rw [hH3,aa (by omega)];exact g2
  have g3p:H3.get H.n=some ⟨[str [],str []],229,true⟩:=by rw [hH3,aa (by omega)];exact g2p
  have g3q:H3.get (H.n+1)=some ⟨[str nm,str []],229,true⟩:=by rw [hH3];exact uk hn2.symm
  have o3: ∀k,k<H.n->k≠l->H3.get k=H.get k:=fun k hk2 hne2=>by rw [hH3,aa (by omega)];exact o2 k hk2 hne2
  have e4:=fq (H:=H3) (t:= [61]) g3 (by omega) (by omega) (by omega) (by decide);have d1:(H.n=H.n+1)=False:=eq_false (by omega);have d2:(H.n+1=H.n)=False:=eq_false (by omega);have dl1:(l=H.n)=False:=eq_false (by omega);have dl2:(l=H.n+1)=False:=eq_false (by omega);have dl3:(H.n=l)=False:=eq_false (by omega);have dl4:(H.n+1=l)=False:=eq_false (by omega);have fin: ∀(G:LH) (j j':Nat) (B:LB),G.get l=some (cu s j)->H.n+2<=G.n->(∀k,k<H.n->k≠l->G.get k=H.get k)->j'=j->OutC H l s j' (G.set H.n B):=fun G j j' B h1 h2 h3 e=>e▸⟨by rw [ah (by omega)];exact h1,by rw [cG];omega,fun k hk hne=>by rw [ah (by omega)];exact h3 k hk hne⟩;by_cases hy: ∃y,s.drop (i+w0+u0)=61::y
  ·obtain⟨y,hy⟩:=hy;have hlen:(s.drop (i+w0+u0)).length=s.length-(i+w0+u0):=List.length_drop;rw [hy]at hlen e4;simp only [List.length_cons]at hlen;have hpre:Lib.hasPrefix (61::y) [61]=true:=by simp [Lib.hasPrefix]
   rw [hpre,if_pos rfl]at e4;have e4:LC Tryz.prog EJ 128 [ptr l 0,str [61]] H3=some (.bool true,H3.set l (cu s (i+w0+u0+1))):=e4;have hyd:s.drop (i+w0+u0+1)=y:=by rw [<-List.drop_drop,hy];rfl
   have e5:=Bx (H:=H3.set l (cu s (i+w0+u0+1))) (l:=l) (i:=i+w0+u0+1) (s:=s) aw (by omega);rw [hyd]at e5;rw [hy];simp only;by_cases hy0:y= []
   ·rw [if_pos hy0];have qy:=eq_true hy0;simp only [qy,decide_true]at e5;simp [e1,e2',<-hH2,e3,hn2,nE,<-hH3,e4,e5,g3p,g3q,d1,d2,dl1,dl2,dl3,dl4];exact fin _ _ _ _ aw (by rw [cG];omega) (fun k hk hne=>by rw [ah hne];exact o3 k hk hne) (by omega)
   ·rw [if_neg hy0];have qy:=eq_false hy0;simp only [qy,decide_false]at e5;have e6:=K3 (H:=H3.set l (cu s (i+w0+u0+1))) (l:=l) (i:=i+w0+u0+1) (s:=s) aw (by rw [cG];omega) (by omega) hs;rw [hyd]at e6;obtain⟨H5,e6,o6⟩:=e6;have hvl:(Tg.Mi.valP y).1.length<=1000000:=Nat.le_trans (Tg.Mi.valP_len y) (by omega);generalize (Tg.Mi.valP y).1=vv at*;generalize (Tg.Mi.valP y).2.1=vb at*;generalize (Tg.Mi.valP y).2.2=vn at*;have g5:=o6.get;have n5:=o6.n;rw [cG]at n5;have o5: ∀k,k<H.n->k≠l->H5.get k=H.get k:=fun k hk hne=>by rw [o6.old k (by rw [cG];omega) hne,ah hne];exact o3 k hk hne
    have g5p:H5.get H.n=some ⟨[str [],str []],229,true⟩:=by rw [o6.old _ (by rw [cG];omega) (by omega),ah (by omega)];exact g3p
    have g5q:H5.get (H.n+1)=some ⟨[str nm,str []],229,true⟩:=by rw [o6.old _ (by rw [cG];omega) (by omega),ah (by omega)];exact g3q
    have e7:=fun H:LH=>jS (H:=H) (s:=nm) (by omega);have e8:=fun H:LH=>uU (H:=H) (s:=vv) hvl;have dn1:(H.n=H5.n)=False:=eq_false (by omega);cases vb<;>cases h9:Tg.Mi.tokenP nm
    all_goals
     rw [h9]at e7;simp [e1,e2',<-hH2,e3,hn2,nE,<-hH3,e4,e5,e6,e7,e8,g5p,g5q,d1,d2,dl1,dl2,dl3,dl4,h9];exact fin _ _ _ _ (by rw [ah (by omega)];exact g5) (by rw [cG];omega) (fun k hk hne=>by rw [ah (by omega)];exact o5 k hk hne) (by omega)
  ·have hpre:Lib.hasPrefix (s.drop (i+w0+u0)) [61]=false:=by
    cases hz:s.drop (i+w0+u0)with
    |nil=>rfl
    |cons b r=>
     have hb:b≠61:=fun e=>hy ⟨r,by rw [hz,e]⟩;show((61:UInt8)==b&&List.isPrefixOf [] r)=false;rw [beq_false_of_ne (fun e=>hb e.symm)];rfl
   rw [hpre]at e4;simp only [Bool.false_eq_true,if_false]at e4;split
   ·rename_i y hz;exact absurd ⟨y,hz⟩ hy
   ·simp [e1,e2',<-hH2,e3,hn2,nE,<-hH3,e4,g3p,g3q,d1,d2,dl1,dl2,dl3,dl4];exact fin _ _ _ _ g3 (by omega) o3 (by omega)
 obtain⟨⟨u,H1⟩,e,h1,h2⟩:=key;simp only at h1 h2;subst h1;obtain⟨H2,e2,o2⟩:=h2.trunc hl (u:=.tuple #[MN (Tg.Mi.parP (s.drop i)).1,.bool (Tg.Mi.parP (s.drop i)).2.1]);exact⟨H2,by rw [e,e2],o2⟩
end
end Go.Proofs.YtbeoilidocfofaaGreatDoor.Mi
namespace Tg.Mi
def parsP:Nat->List UInt8->List Par->List Par
 |0,_,ps=>ps
 |n+1,x,ps=>match x with
  |59::y=>parsP n (y.drop (parP y).2.2) (if(parP y).2.1=true/\fnd (parP y).1.1 ps 0<0 then ps++ [(parP y).1]else ps)
  |_=>ps
def parseP (s0:List UInt8):Option Mim:=
 match (Tg.Hd.trim s0).drop (until_ [47] (Tg.Hd.trim s0))with
 |_::r=>if tokenP (Tg.Lo.lower ((Tg.Hd.trim s0).take (until_ [47] (Tg.Hd.trim s0))))&&tokenP (Tg.Lo.lower (back white (r.take (until_ [59] r))))then
   some ⟨Tg.Lo.lower ((Tg.Hd.trim s0).take (until_ [47] (Tg.Hd.trim s0))),Tg.Lo.lower (back white (r.take (until_ [59] r))),parsP (r.length+1) (r.drop (until_ [59] r)) []⟩else none
 | []=>none
theorem parsP_fuel: ∀(n m:Nat) (x:List UInt8) (ps:List Par),x.length<n->x.length<m->parsP n x ps=parsP m x ps
 |0,_,_,_,h,_=>by omega
 |n+1,0,_,_,_,h=>by omega
 |n+1,m+1,x,ps,h1,h2=>by
  unfold parsP;split
  ·rename_i y;simp only [List.length_cons]at h1 h2;exact parsP_fuel n m _ _ (by rw [List.length_drop];omega) (by rw [List.length_drop];omega)
  ·rfl
end Tg.Mi
namespace Go.Proofs.YtbeoilidocfofaaGreatDoor.Mi
open Go.Lg Go.Tg
section
variable {H H':LH} {N M b c l i p:Nat} {s t u name:List UInt8} {v w:Value} {ps:List Tg.Mi.Par} {a:Tg.Mi.Par}
theorem nF:ax Tryz.prog 229=some ln.n:=by kernel_rfl
def iU (N:Nat) (o:Option Tg.Mi.Mim) (H:LH) (r:Value):Prop:=match o with
 |some m=> ∃v,r=.tuple #[mv m.t m.s v,.int .i64 0]/\bB ln 229 N H v m.ps
 |none=>r=.tuple #[mv [] [] (.slice none 0 0),.int .i64 2]
theorem gQ {x:Value} (h:ao (.tuple #[mv t u v,x])=true) (hc:aC v=true):ao v=true:=by
 simp only [ao,List.all_cons,Bool.and_eq_true,az,List.all_nil,Bool.and_true]at h;have h1:=h.1.2.2;cases v<;>first|exact h1|(simp [aC]at hc)
theorem iU.flat {o:Option Tg.Mi.Mim} (h:iU N o H' v) (hf:ao v=true):iU N o H v:=by
 cases o with
 |none=>exact h
 |some m=>
  obtain⟨w,rfl,h⟩:=h;exact⟨w,rfl,h.flat (gQ hf h.cell)⟩
theorem Pb {a:Tg.Mi.Par} :aG Tryz.prog 68 1 [(0,MN a)] H=some (sl H.n 1 1,H.new ⟨[str a.1,str a.2],229,true⟩):=by
 unfold aG;simp [Instr.fill,Value.cells,Array.range];rfl
theorem yb (hN:N<=H.n) (hs:s.length<=100000):fv Tryz.prog EJ 220 [str s] H (iU N (Tg.Mi.parseP s)):=by
 refine cI ?_ (fun v H' hf h=>h.flat hf);refine aD (P:=Tryz.prog) (E:=EJ) (f:=220) rfl Tryz.func220 rfl (Nat.le_of_ble_eq_true rfl) (by decide) (by kernel_rfl) ?_;unfold Tg.Mi.parseP;have e0:=fun H:LH=>Fw (H:=H) (s:=s) (by omega);have hxl:(Tg.Hd.trim s).length<=100000:=Nat.le_trans (eN s) hs;generalize Tg.Hd.trim s=x at*;have hk:=Tg.Mi.until_le [47] x;have hstop:=fun b r=>Tg.Mi.until_stopG (t:= [47]) (x:=x) (b:=b) (r:=r);obtain⟨B0,hB0⟩: ∃B0:LB,B0=⟨[str [],str [],.slice none 0 0],70,true⟩:=⟨_,rfl⟩
 have e1:=nn (H:=H.new ⟨[str [],str [],.slice none 0 0],70,true⟩) (s:=x);rw [aL]at e1;have e2:=dK (H:=(H.new ⟨[str [],str [],.slice none 0 0],70,true⟩).new (cu x 0)) (l:=H.n+1) (i:=0) (s:=x) (t:= [47]) (by exact ak) (by rw [aL,aL];omega) (Nat.zero_le _) (by omega);rw [List.drop_zero,Nat.zero_add,um (aL).symm]at e2;generalize hk0:Tg.Mi.until_ [47] x=k at*;have htl:(x.take k).length<=100000:=by rw [List.length_take];omega
 have e3:=fun H:LH=>jT (H:=H) (s:=x.take k) (by omega);have htl2:(Tg.Lo.lower (x.take k)).length<=100000:=by rw [kN];exact htl
 generalize Tg.Lo.lower (x.take k)=ty at*;obtain⟨G2,hG2⟩: ∃G2,G2=((H.new ⟨[str [],str [],.slice none 0 0],70,true⟩).new (cu x k)).new ⟨[str ty,str [],.slice none 0 0],70,true⟩:=⟨_,rfl⟩
 have n2:G2.n=H.n+1+1+1:=by rw [hG2];rfl
 have a2:G2.get H.n=some B0:=by rw [hG2,aa (by simp;omega),aa (by simp),ak,hB0]
 have b2:G2.get (H.n+1)=some (cu x k):=by rw [hG2,aa (by simp)];exact ak
 have c2:G2.get (H.n+1+1)=some ⟨[str ty,str [],.slice none 0 0],70,true⟩:=by rw [hG2];exact ak
 have le2:H.le G2:=by rw [hG2];exact le_refl.new.new.new
 have e4:=fq (H:=G2) (t:= [47]) b2 (by omega) hk (by omega) (by decide);have d1:(H.n=H.n+1)=False:=eq_false (by omega);have d2:(H.n=H.n+1+1)=False:=eq_false (by omega);have d3:(H.n+1=H.n+1+1)=False:=eq_false (by omega);have d4:(H.n+1+1=H.n+1)=False:=eq_false (by omega);have d5:(H.n+1+1=H.n)=False:=eq_false (by omega);have d6:(H.n+1=H.n)=False:=eq_false (by omega);cases hx:x.drop k with
 |nil=>
  rw [hx]at e4;have e4:LC Tryz.prog EJ 128 [ptr (H.n+1) 0,str [47]] G2=some (.bool false,G2):=e4;have e5:=dK (t:= [59]) b2 (by omega) hk (by omega);rw [hx]at e5;have e5:LC Tryz.prog EJ 147 [ptr (H.n+1) 0,str [59]] G2=some (str [],G2.set (H.n+1) (cu x k)):=e5;have e6:=fun H:LH=>qo (H:=H) (s:= []) (by decide);have e6: ∀H:LH,LC Tryz.prog EJ 251 [str []] H=some (str [],H):=e6;have e7: ∀H:LH,LC Tryz.prog EJ 250 [str []] H=some (str [],H):=fun H=>jT (H:=H) (s:= []) (by decide);simp [e0,e1,e2,e3,<-hG2,n2,e4,e5,e6,e7,a2,c2,hB0,d1,d2,d3,d4,d5,d6,iU,le2];exact(le2.set (by omega)).set (by omega)
 |cons b r=>
  have hb:b=47:=by
   have h1:=hstop b r hx;by_cases h2:b=47
   ·exact h2
   ·have h3:=eq_false (show¬(47:UInt8)=b from fun e=>h2 e.symm);exact absurd (by simp [Lib.indexByte,h3]) h1
  subst hb;have hlen:(x.drop k).length=x.length-k:=List.length_drop;rw [hx]at e4 hlen;simp only [List.length_cons]at hlen;have hpre:Lib.hasPrefix (47::r) [47]=true:=by simp [Lib.hasPrefix]
  rw [hpre,if_pos rfl]at e4;have e4:LC Tryz.prog EJ 128 [ptr (H.n+1) 0,str [47]] G2=some (.bool true,G2.set (H.n+1) (cu x (k+1))):=e4;have hr:x.drop (k+1)=r:=by rw [<-List.drop_drop,hx];rfl
  have e5:=dK (H:=G2.set (H.n+1) (cu x (k+1))) (t:= [59]) aw (by rw [cG];omega) (by omega) (by omega);rw [hr,set_set]at e5;have hu:=Tg.Mi.until_le [59] r;simp only;generalize hu0:Tg.Mi.until_ [59] r=u0 at*;have hul:(r.take u0).length<=100000:=by rw [List.length_take];omega
  have e6:=fun H:LH=>qo (H:=H) (s:=r.take u0) (by omega);have hbl:=Tg.Mi.back_le Tg.Mi.white (r.take u0);generalize Tg.Mi.back Tg.Mi.white (r.take u0)=bk at*;have e7:=fun H:LH=>jT (H:=H) (s:=bk) (by omega);have hsl:(Tg.Lo.lower bk).length<=100000:=by rw [kN];omega
  generalize Tg.Lo.lower bk=sb at*;have e8:=fun H:LH=>jS (H:=H) (s:=ty) (by omega);have e9:=fun H:LH=>jS (H:=H) (s:=sb) (by omega);obtain⟨G3,hG3⟩: ∃G3,G3=(G2.set (H.n+1) (cu x (k+1+u0))).set (H.n+1+1) ⟨[str ty,str sb,.slice none 0 0],70,true⟩:=⟨_,rfl⟩
  have n3:G3.n=H.n+1+1+1:=by rw [hG3,cG,cG,n2]
  have a3:G3.get H.n=some B0:=by rw [hG3,ah (by omega),ah (by omega)];exact a2
  have b3:G3.get (H.n+1)=some (cu x (k+1+u0)):=by rw [hG3,ah (by omega)];exact aw
  have c3:G3.get (H.n+1+1)=some ⟨[str ty,str sb,.slice none 0 0],70,true⟩:=by rw [hG3];exact aw
  have le3:H.le G3:=by rw [hG3];exact(le2.set (by omega)).set (by omega)
  by_cases htk:Tg.Mi.tokenP ty=true/\Tg.Mi.tokenP sb=true
  ·obtain⟨t1,t2⟩:=htk;rw [t1]at e8;rw [t2]at e9;rw [t1,t2];simp only [Bool.and_self,if_true];obtain⟨T,hT⟩: ∃T,T=Tg.Mi.parsP (r.length+1) (r.drop u0) []:=⟨_,rfl⟩
   rw [<-hT];simp [e0,e1,e2,e3,<-hG2,n2,e4,e5,e6,e7,e8,e9,a2,c2,d1,d2,d3,d4,d5,d6,<-hG3,c3];refine aK (fun(j:Nat) fr' H'=> ∃v ps,fr' 2=ptr H.n 0/\fr' 4=ptr (H.n+1) 0/\fr' 5=ptr (H.n+1+1) 0/\j<=x.length/\ps.length<=j/\bJ ln 229 N H.n H' v ps/\H'.get H.n=some B0/\H'.get (H.n+1)=some (cu x j)/\H'.get (H.n+1+1)=some ⟨[str ty,str sb,v],70,true⟩/\H.n+3<=H'.n/\(∀k,k<H.n->H'.get k=H.get k)/\T=Tg.Mi.parsP (x.length-j+1) (x.drop j) ps) (fun j=>x.length-j) (k+1+u0) ⟨.slice none 0 0,[],by simp,by simp,by simp,by omega,by simp,bJ.nil,a3,b3,c3,by omega,le3.2,?_⟩ ?_
   ·rw [hT,<-List.drop_drop,hr];exact Tg.Mi.parsP_fuel _ _ _ _ (by rw [List.length_drop];omega) (by rw [List.length_drop];omega)
   rintro j fr' H2 ⟨v,ps,f2,f4,f5,hj,hpl,how,ga,gb,gc,hn,hold,hq⟩ ih;have hcv:=how.cell;have q4:=fq (t:= [59]) gb (by omega) hj (by omega) (by decide);have hjl:(x.drop j).length=x.length-j:=List.length_drop;by_cases hy: ∃y,x.drop j=59::y
   ·obtain⟨y,hy⟩:=hy;rw [hy]at q4 hjl hq;simp only [List.length_cons]at hjl;have hpre:Lib.hasPrefix (59::y) [59]=true:=by simp [Lib.hasPrefix]
    rw [hpre,if_pos rfl]at q4;have q4:LC Tryz.prog EJ 128 [ptr (H.n+1) 0,str [59]] H2=some (.bool true,H2.set (H.n+1) (cu x (j+1))):=q4;have hyd:x.drop (j+1)=y:=by rw [<-List.drop_drop,hy];rfl
    unfold Tg.Mi.parsP at hq;simp only at hq;obtain⟨H5,q5,o5⟩:=Cy (H:=H2.set (H.n+1) (cu x (j+1))) (l:=H.n+1) (i:=j+1) (s:=x) aw (by rw [cG];omega) (by omega) hxl;rw [hyd]at q5 o5;have hnl:=Tg.Mi.parP_le y;have hdd:y.drop (Tg.Mi.parP y).2.2=x.drop (j+1+(Tg.Mi.parP y).2.2):=by rw [<-hyd,List.drop_drop]
    rw [hdd]at hq;generalize (Tg.Mi.parP y).1=p at*;generalize (Tg.Mi.parP y).2.1=ok at*;generalize (Tg.Mi.parP y).2.2=pn at*;have gb5:=o5.get;have n5:=o5.n;rw [cG]at n5;have k5: ∀k,k<H2.n->k≠H.n+1->H5.get k=H2.get k:=fun k hk hne=>by rw [o5.old k (by rw [cG];exact hk) hne,ah hne]
    have how5:bJ ln 229 N H.n H5 v ps:=how.keep1 n5 gb (by show 163≠229;decide) (fun h=>h) (by omega) k5;have ga5:H5.get H.n=some B0:=by rw [k5 _ (by omega) (by omega)];exact ga
    have gc5:H5.get (H.n+1+1)=some ⟨[str ty,str sb,v],70,true⟩:=by rw [k5 _ (by omega) (by omega)];exact gc
    have hold5: ∀k,k<H.n->H5.get k=H.get k:=fun k hk=>by rw [k5 k (by omega) (by omega)];exact hold k hk
    obtain⟨H6,hH6⟩: ∃H6,H6=H5.new ⟨[str p.1,str p.2],229,true⟩:=⟨_,rfl⟩
    have n6:H6.n=H5.n+1:=by rw [hH6];rfl
    have le6:H5.le H6:=by rw [hH6];exact le_refl.new
    have g6:H6.get H5.n=some ⟨[str p.1,str p.2],229,true⟩:=by rw [hH6];exact ak
    have how6:=how5.le le6;have ga6:=(le6.2 H.n (by omega)).trans ga5;have gb6:=(le6.2 (H.n+1) (by omega)).trans gb5;have gc6:=(le6.2 (H.n+1+1) (by omega)).trans gc5;have q7:=lV (H:=H6) (t:=ty) (u:=sb) (name:=p.1) how6.row (by omega);have m1:(H.n+1+1=H5.n)=False:=eq_false (by omega);have m2:(H5.n=H.n+1+1)=False:=eq_false (by omega);have hrn:x.length-(j+1+pn)+1<=x.length-j:=by omega
    have fu: ∀ps,Tg.Mi.parsP (x.length-j) (x.drop (j+1+pn)) ps=Tg.Mi.parsP (x.length-(j+1+pn)+1) (x.drop (j+1+pn)) ps:=fun ps=>Tg.Mi.parsP_fuel _ _ _ _ (by rw [List.length_drop];omega) (by rw [List.length_drop];omega);rw [fu]at hq;by_cases hc:ok=true/\Tg.Mi.fnd p.1 ps 0<0
    ·rw [if_pos hc]at hq;obtain⟨rfl,hf⟩:=hc;have hf:=eq_true hf;obtain⟨v7,H7,a7,r7,n7,k7,o7,kp7⟩:=how6.app (t:=68) (cs:= [str p.1,str p.2]) (a:=p) Tryz.underlying68 nF hN (by omega) (by unfold aH;omega) rfl (fun h=>h);have oa:ay v H.n:=how6.off_elem ga6 (by rw [hB0];show 70≠229;decide);have ob:ay v (H.n+1):=how6.off_elem gb6 (by show 163≠229;decide);have oc:ay v (H.n+1+1):=how6.off_elem gc6 (by show 70≠229;decide);have ga7:=(k7 _ (by omega) oa).trans ga6;have gb7:=(k7 _ (by omega) ob).trans gb6;have gc7:=(k7 _ (by omega) oc).trans gc6;have cv7:=r7.cell
     have hfin:=fun fr2 (g2:fr2 2=ptr H.n 0) (g4:fr2 4=ptr (H.n+1) 0) (g5:fr2 5=ptr (H.n+1+1) 0)=>ih (j+1+pn) fr2 (H7.set (H.n+1+1) ⟨[str ty,str sb,v7],70,true⟩) (by omega) ⟨v7,ps++ [p],g2,g4,g5,by omega,by rw [List.length_append,List.length_singleton];omega,
      r7.keep1 (Nat.le_refl _) gc7 (by show 70≠229;decide) (fun h=>h) (by omega) (fun k _ hne=>ah hne),by rw [ah (by omega)];exact ga7,by rw [ah (by omega)];exact gb7,aw,by rw [cG];omega,fun k hk=>by rw [ah (by omega),k7 k (by omega) (how6.off_lt hk),le6.2 k (by omega)];exact hold5 k hk,hq⟩
     clear ih hq;simp [f2,f4,f5,q4,q5,<-hH6,q7,hf,gc6,g6,Pb,a7,gc7,m1,m2,hcv,cv7];refine hfin _ ?_ ?_ ?_
     all_goals simp [f2,f4,f5]
    ·rw [if_neg hc]at hq;have hfin:=fun fr2 (g2:fr2 2=ptr H.n 0) (g4:fr2 4=ptr (H.n+1) 0) (g5:fr2 5=ptr (H.n+1+1) 0)=>ih (j+1+pn) fr2 H6 (by omega) ⟨v,ps,g2,g4,g5,by omega,by omega,how6,ga6,gb6,gc6,by omega,fun k hk=>by rw [le6.2 k (by omega)];exact hold5 k hk,hq⟩;clear ih hq;cases ok with
     |false=>
      simp [f2,f4,f5,q4,q5,<-hH6];refine hfin _ ?_ ?_ ?_
      all_goals simp [f2,f4,f5]
     |true=>
      have hf:=eq_false (fun h=>hc ⟨rfl,h⟩);simp [f2,f4,f5,q4,q5,<-hH6,q7,hf,gc6,g6,m1,m2,hcv];refine hfin _ ?_ ?_ ?_
      all_goals simp [f2,f4,f5]
   ·have hpre:Lib.hasPrefix (x.drop j) [59]=false:=by
     cases hz:x.drop j with
     |nil=>rfl
     |cons b r=>
      have hb:b≠59:=fun e=>hy ⟨r,by rw [hz,e]⟩;show((59:UInt8)==b&&List.isPrefixOf [] r)=false;rw [beq_false_of_ne (fun e=>hb e.symm)];rfl
    rw [hpre]at q4;simp only [Bool.false_eq_true,if_false]at q4
    have hT2:T=ps:=by
     rw [hq];unfold Tg.Mi.parsP;split
     ·rename_i y hz;exact absurd ⟨y,hz⟩ hy
     ·rfl
    clear ih hq;simp [f2,f4,f5,q4,ga,gc,hB0,hcv];rw [hT2];exact⟨⟨by show H.n<=H2.n;omega,hold⟩,v,rfl,(how.keep1 (H':=H2.set H.n _) (Nat.le_refl _) ga (by rw [hB0];show 70≠229;decide) (fun h=>h) hN (fun k _ hne=>ah hne)).row⟩
  ·have hno:(Tg.Mi.tokenP ty&&Tg.Mi.tokenP sb)=false:=by
    cases h1:Tg.Mi.tokenP ty<;>cases h2:Tg.Mi.tokenP sb<;>simp_all
   rw [hno];simp only [Bool.false_eq_true,if_false];cases h1:Tg.Mi.tokenP ty with
   |false=>
    rw [h1]at e8;simp [e0,e1,e2,e3,<-hG2,n2,e4,e5,e6,e7,e8,a2,c2,d1,d2,d3,d4,d5,d6,<-hG3,a3,c3,hB0,iU,le3]
   |true=>
    have h2:Tg.Mi.tokenP sb=false:=by rw [h1]at hno;simpa using hno
    rw [h1]at e8;rw [h2]at e9;simp [e0,e1,e2,e3,<-hG2,n2,e4,e5,e6,e7,e8,e9,a2,c2,d1,d2,d3,d4,d5,d6,<-hG3,a3,c3,hB0,iU,le3]
end
end Go.Proofs.YtbeoilidocfofaaGreatDoor.Mi
namespace Tg.Mi
def essP (t s:List UInt8):List UInt8:=t++([47]++s)
def plainP (s:List UInt8):Bool:=tokenP s&&decide (Tg.Lo.lower s=s)
def goodL (all:List Par):List Par->Nat->Bool
 | [],_=>true
 |p::r,i=>plainP p.1&&(p.2.all quo&&(decide (fnd p.1 all 0=(i:Int))&&goodL all r (i+1)))
def goodM (m:Mim):Bool:=goodL m.ps m.ps 0&&(plainP m.t&&plainP m.s)
def parmP (ps:List Par) (name:List UInt8):List UInt8×Bool:=if fnd name ps 0<0 then([],false)else((ps.getD (fnd name ps 0).toNat ([],[])).2,true)
def charset:List UInt8:= [99,104,97,114,115,101,116]
def withP (m:Mim) (name value:List UInt8):Mim:=⟨m.t,m.s,m.ps++ [(name,value)]⟩
end Tg.Mi
namespace Go.Proofs.YtbeoilidocfofaaGreatDoor.Mi
open Go.Lg Go.Tg
def MO:El Tg.Mi.Mim:=⟨3,fun t=>t=229,fun N H cs m=> ∃v,cs= [str m.t,str m.s,v]/\bB ln 229 N H v m.ps,
 fun h=>by obtain⟨v,rfl,_⟩:=h;rfl,fun h=>by obtain⟨v,rfl,h⟩:=h;simp [h.cell],fun hk h=>by obtain⟨v,e,h⟩:=h;exact⟨v,e,h.keep (hk.weak fun t ht=>ht.elim id False.elim)⟩,fun h=>by obtain⟨v,e,h⟩:=h;exact⟨v,e,h.ro⟩⟩
section
variable {H H':LH} {N M b c l i p:Nat} {s t u name value:List UInt8} {v w:Value} {ps:List Tg.Mi.Par} {a:Tg.Mi.Par}
theorem Ib {x y:List UInt8} (h:x.length+y.length<=9000000):bL Tryz.prog .add 9 (str x) (str y)=some (str (x++y)):=r_ (by omega)
theorem nC (ht:t.length<=1000000) (hu:u.length<=1000000) (hc:aC v=true):LC Tryz.prog EJ 64 [mv t u v] H=some (str (Tg.Mi.essP t u),H):=by
 have h1: ∀H:LH,LC Tryz.prog EJ 91 [mv t u v] H=some (str (Tg.Mi.essP t u),H):=fun H=>by
  refine ag rfl Tryz.func91 rfl (Nat.le_of_ble_eq_true rfl) (by decide) (by kernel_rfl) rfl ?_;have c1:=Ib (x:=t) (y:= [47]) (by simp;omega);have c2:=Ib (x:=t++ [47]) (y:=u) (by simp;omega);rw [List.append_assoc]at c2;unfold Tg.Mi.essP;simp [hc,c1,c2,le_refl.new]
 refine ag rfl Tryz.func64 rfl (Nat.le_of_ble_eq_true rfl) (by decide) (by kernel_rfl) rfl ?_;simp [hc,h1,le_refl.new]
theorem wg {j:Nat} (h:j<ps.length):ps.getD j ([],[])=ps[j]:=by rw [List.getD_eq_getElem?_getD,List.getElem?_eq_getElem h];rfl
theorem Cz (hr:bB ln 229 N H v ps) (hl:ps.length<=1000000):LC Tryz.prog EJ 221 [mv t u v,str name] H=some (.tuple #[str (Tg.Mi.parmP ps name).1,.bool (Tg.Mi.parmP ps name).2],H):=by
 refine ag rfl Tryz.func221 rfl (Nat.le_of_ble_eq_true rfl) (by decide) (by kernel_rfl) rfl ?_;have hcv:=hr.cell;have hr1:=hr.le (H':=H.new ⟨[str t,str u,v],70,true⟩) le_refl.new;have h1:=lV (t:=t) (u:=u) (name:=name) hr1 hl;unfold Tg.Mi.parmP;rcases Tg.Mi.fnd_ge name ps 0 with hf|⟨j,hf,hj,_⟩
 ·rw [hf]at h1;rw [hf,if_pos (by decide)];simp [hcv,h1,le_refl.new]
 ·rw [Nat.zero_add]at hf;rw [hf]at h1;rw [hf,if_neg (by omega),Int.toNat_natCast,wg hj];obtain⟨k,o,g1,g2,g3⟩:=uV hr1 hj;obtain⟨g4,g5,g6⟩:=g3 _ rfl;have q:=eq_false (show¬(j:Int)<0 by omega);simp [hcv,h1,q,g1,g6,le_refl.new]
theorem nG (hs:s.length<=1000000):LC Tryz.prog EJ 286 [str s] H=some (.bool (Tg.Mi.plainP s),H):=by
 refine ag rfl Tryz.func286 rfl (Nat.le_of_ble_eq_true rfl) (by decide) (by kernel_rfl) rfl ?_;have h1:=fun H:LH=>jS (H:=H) hs;have h2:=fun H:LH=>jT (H:=H) hs;unfold Tg.Mi.plainP;cases hq:Tg.Mi.tokenP s with
 |false=>rw [hq]at h1;simp [h1]
 |true=>rw [hq]at h1;simp [h1,h2]
theorem wi (hr:bB ln 229 N H v ps) (hl:ps.length<=100000) (hs: ∀p∈ps,p.1.length<=1000000/\p.2.length<=1000000) (ht:t.length<=1000000) (hu:u.length<=1000000):LC Tryz.prog EJ 256 [mv t u v] H=some (.bool (Tg.Mi.goodM ⟨t,u,ps⟩),H):=by
 refine ag rfl Tryz.func256 rfl (Nat.le_of_ble_eq_true rfl) (by decide) (by kernel_rfl) rfl ?_;have hcv:=hr.cell;have hlen:=fun H':LH=>hr.len (P:=Tryz.prog) (t:=68) (H':=H') Tryz.underlying68;have h1:=fun H:LH=>nG (H:=H) ht;have h2:=fun H:LH=>nG (H:=H) hu;obtain⟨x,hx⟩: ∃x,x=Tg.Mi.goodM ⟨t,u,ps⟩:=⟨_,rfl⟩
 rw [<-hx];unfold Tg.Mi.goodM at hx;simp only at hx;simp [hcv,hlen];refine aK (fun(i:Nat) fr' H'=>fr' 1=ptr H.n 0/\fr' 6=v/\fr' 7=.int .i64 ps.length/\fr' 8=.int .i64 i/\i<=ps.length/\H.le H'/\H.n<H'.n/\H'.get H.n=some ⟨[str t,str u,v],70,true⟩/\x=(Tg.Mi.goodL ps (ps.drop i) i&&(Tg.Mi.plainP t&&Tg.Mi.plainP u))) (fun i=>ps.length-i) 0 ⟨by simp,by simp,by simp,by simp,Nat.zero_le _,le_refl.new,by simp,ak,hx⟩ ?_;rintro i fr' H2 ⟨f1,f6,f7,f8,hi,hle,hn,hg,hq⟩ ih;have hr2:=hr.le hle;by_cases hlt:i<ps.length
 ·have q:=eq_true (show(i:Int)<(ps.length:Int) by omega);have hw:IntKind.i64.wrap ((i:Int)+1)=((i+1:Nat):Int):=by rw [wrapI (by omega) (by omega)];omega
  obtain⟨k,o,g1,g2,g3⟩:=uV hr2 hlt;obtain⟨g4,_,_⟩:=g3 H2 rfl;have hm:=hs ps[i] (List.getElem_mem hlt);rw [List.drop_eq_getElem_cons hlt]at hq;obtain⟨H3,hH3⟩: ∃H3,H3=H2.new ⟨[str ps[i].1,str ps[i].2],229,true⟩:=⟨_,rfl⟩
  have le3:H2.le H3:=by rw [hH3];exact le_refl.new
  have p1:=fun H:LH=>nG (H:=H) hm.1;have p2:=fun H:LH=>uU (H:=H) hm.2;have p3:=lV (H:=H3) (t:=t) (u:=u) (name:=ps[i].1) (hr2.le le3) (by omega);have g6:H3.get H2.n=some ⟨[str ps[i].1,str ps[i].2],229,true⟩:=by rw [hH3];exact ak
  have g7:=(le3.2 H.n hn).trans hg;generalize ps[i]=a at*;unfold Tg.Mi.goodL at hq;have dn:(H.n=H2.n)=False:=eq_false (by omega);have n3:H3.n=H2.n+1:=by rw [hH3];rfl
  cases c1:Tg.Mi.plainP a.1 with
  |false=>
   rw [c1]at p1 hq;simp only [Bool.false_and]at hq;clear ih;simp [f1,f6,f7,f8,q,hlt,g1,g4,<-hH3,p1,g6,g7,dn,hq];exact hle.trans le3
  |true=>
   rw [c1]at p1 hq;cases c2:a.2.all Tg.Mi.quo with
   |false=>
    rw [c2]at p2 hq;simp only [Bool.false_and,Bool.and_false]at hq;clear ih;simp [f1,f6,f7,f8,q,hlt,g1,g4,<-hH3,p1,p2,g6,g7,dn,hq];exact hle.trans le3
   |true=>
    rw [c2]at p2 hq;by_cases c3:Tg.Mi.fnd a.1 ps 0=(i:Int)
    ·rw [decide_eq_true c3]at hq;simp only [Bool.true_and]at hq;have c3:=eq_true c3;have hfin:=fun fr2 (g1:fr2 1=ptr H.n 0) (g6:fr2 6=v) (g7':fr2 7=.int .i64 ps.length) (g8:fr2 8=.int .i64 ((i+1:Nat):Int))=>ih (i+1) fr2 H3 (by omega) ⟨g1,g6,g7',g8,by omega,hle.trans le3,by omega,g7,hq⟩;clear ih hq;simp [f1,f6,f7,f8,q,hlt,g1,g4,<-hH3,p1,p2,p3,g6,g7,dn,c3,hcv];refine hfin _ ?_ ?_ ?_ ?_
     all_goals simp [f1,f6,f7,hw]
    ·rw [decide_eq_false c3]at hq;simp only [Bool.false_and,Bool.and_false]at hq;have c3:=eq_false c3;clear ih;simp [f1,f6,f7,f8,q,hlt,g1,g4,<-hH3,p1,p2,p3,g6,g7,dn,c3,hcv,hq];exact hle.trans le3
 ·have q:=eq_false (show¬(i:Int)<(ps.length:Int) by omega);rw [List.drop_of_length_le (by omega)]at hq;simp only [Tg.Mi.goodL,Bool.true_and]at hq;clear ih;cases c1:Tg.Mi.plainP t with
  |false=>
   rw [c1]at h1 hq;simp only [Bool.false_and]at hq;simp [f1,f6,f7,f8,q,hlt,hg,h1,hq];exact hle
  |true=>
   rw [c1]at h1 hq;simp only [Bool.true_and]at hq;simp [f1,f6,f7,f8,q,hlt,hg,h1,h2,hq];exact hle
end
end Go.Proofs.YtbeoilidocfofaaGreatDoor.Mi
namespace Tg.Mi
def stepP (t s set:List UInt8) (next:Mim):Mim×List UInt8:=
 if essP t s≠essP next.t next.s then(next,(parmP next.ps charset).1)
 else if(parmP next.ps charset).2=false/\set≠ []/\goodM (withP next charset set)=true then(withP next charset set,set)else(next,set)
end Tg.Mi
namespace Go.Proofs.YtbeoilidocfofaaGreatDoor.Mi
open Go.Lg Go.Tg
section
variable {H H':LH} {N M b c l i p:Nat} {s t u name value set:List UInt8} {v w:Value} {ps:List Tg.Mi.Par} {a:Tg.Mi.Par} {m:Tg.Mi.Mim}
theorem Rz:aG Tryz.prog 68 0 [] H=some (sl H.n 0 0,H.new ⟨[],229,true⟩):=by
 unfold aG;simp [Instr.fill,Array.range,Value.cells]
 try rfl
theorem sU (hr:bB ln 229 N H v ps) (hl:ps.length<=1000000):fv Tryz.prog EJ 255 [v] H fun H' r=>bJ ln 229 N H.n H' r ps:=by
 refine cI ?_ (fun v H' hf h=>h.flat hf);refine aD (P:=Tryz.prog) (E:=EJ) (f:=255) rfl Tryz.func255 rfl (Nat.le_of_ble_eq_true rfl) (by decide) (by kernel_rfl) ?_;obtain⟨v',H2,a1,a2,a3⟩:=bJ.copy (M:=H.n) (P:=Tryz.prog) (t:=68) hr Tryz.underlying68 nF (by unfold aH;omega) (Nat.le_refl _);rcases hr with⟨rfl,rfl⟩|⟨k,o,c,b,rfl,h2⟩
 ·simp;exact bJ.nil
 ·simp [Rz,a1];exact⟨a3,a2⟩
theorem CA (hr:bB ln 229 N H v ps) (hl:ps.length<=1000000) (hN:N<=H.n):fv Tryz.prog EJ 222 [mv t u v] H fun H' r=> ∃v',r=mv t u v'/\bB ln 229 N H' v' ps:=by
 refine cI ?_ (fun v H' hf h=>by
  obtain⟨w,rfl,h⟩:=h;refine⟨w,rfl,h.flat ?_⟩;have hc:=h.cell;simp only [ao,az,List.all_cons,Bool.and_eq_true]at hf;have h1:=hf.2.2.1;cases w<;>first|exact h1|(simp [aC]at hc))
 refine aD (P:=Tryz.prog) (E:=EJ) (f:=222) rfl Tryz.func222 rfl (Nat.le_of_ble_eq_true rfl) (by decide) (by kernel_rfl) ?_;have hcv:=hr.cell;obtain⟨H1,hH1⟩: ∃H1,H1=(H.new ⟨[str t,str u,v],70,true⟩).new ⟨[str [],str [],.slice none 0 0],70,true⟩:=⟨_,rfl⟩
 have le1:H.le H1:=by rw [hH1];exact le_refl.new.new
 have n1:H1.n=H.n+1+1:=by rw [hH1];rfl
 have a1:H1.get H.n=some ⟨[str t,str u,v],70,true⟩:=by rw [hH1,aa (by simp),ak]
 have b1:H1.get (H.n+1)=some ⟨[str [],str [],.slice none 0 0],70,true⟩:=by rw [hH1];exact ak
 obtain⟨v2,H2,e2,le2,r2⟩:=sU (hr.le le1) hl;have cv2:=r2.cell;have a2:=(le2.2 H.n (by omega)).trans a1;have b2:=(le2.2 (H.n+1) (by omega)).trans b1;have d1:(H.n=H.n+1)=False:=eq_false (by omega);have d2:(H.n+1=H.n)=False:=eq_false (by omega);have n2:=le2.1;simp [hcv,<-hH1,e2,a1,a2,b2,cv2,d1,d2];have le3:=le1.trans le2;refine⟨le3,?_⟩;have k2:=r2.keep1 (H':=H2.set H.n ⟨[str t,str u,v2],70,true⟩) (Nat.le_refl _) a2 (by show 70≠229;decide) (fun h=>h) hN (fun k _ hne=>ah hne);have k3:=k2.keep1 (c:=H.n+1) (H':=(H2.set H.n ⟨[str t,str u,v2],70,true⟩).set (H.n+1) ⟨[str t,str u,v2],70,true⟩) (Nat.le_refl _) (by rw [ah (by omega)];exact b2) (by show 70≠229;decide) (fun h=>h) (by omega) (fun k _ hne=>ah hne);exact k3.row
theorem F6 (hr:bB ln 229 N H v ps) (hl:ps.length<=10000) (hN:N<=H.n) (hs: ∀p∈ps,p.1.length<=1000000/\p.2.length<=1000000) (ht:t.length<=1000000) (hu:u.length<=1000000) (hnm:name.length<=1000000) (hvl:value.length<=1000000):
  fv Tryz.prog EJ 223 [mv t u v,str name,str value] H fun H' r=>if Tg.Mi.goodM (Tg.Mi.withP ⟨t,u,ps⟩ name value)=true then∃v',r=.tuple #[mv t u v',.int .i64 0]/\bB ln 229 N H' v' (ps++ [(name,value)])else∃e:Int,e≠0/\r=.tuple #[mv [] [] (.slice none 0 0),.int .i64 e]:=by
 refine cI ?_ (fun v H' hf h=>by
  split at h
  ·obtain⟨w,rfl,h⟩:=h;rw [if_pos (by assumption)];exact⟨w,rfl,h.flat (gQ hf h.cell)⟩
  ·rw [if_neg (by assumption)];exact h)
 refine aD (P:=Tryz.prog) (E:=EJ) (f:=223) rfl Tryz.func223 rfl (Nat.le_of_ble_eq_true rfl) (by decide) (by kernel_rfl) ?_;have hcv:=hr.cell;obtain⟨H1,hH1⟩: ∃H1,H1=(H.new ⟨[str t,str u,v],70,true⟩).new ⟨[str [],str [],.slice none 0 0],70,true⟩:=⟨_,rfl⟩
 have le1:H.le H1:=by rw [hH1];exact le_refl.new.new
 have n1:H1.n=H.n+1+1:=by rw [hH1];rfl
 have a1:H1.get H.n=some ⟨[str t,str u,v],70,true⟩:=by rw [hH1,aa (by simp),ak]
 have b1:H1.get (H.n+1)=some ⟨[str [],str [],.slice none 0 0],70,true⟩:=by rw [hH1];exact ak
 obtain⟨v2,H2,e2,le2,r2⟩:=sU (hr.le le1) (by omega);have a2:=(le2.2 H.n (by omega)).trans a1;have b2:=(le2.2 (H.n+1) (by omega)).trans b1;have n2:=le2.1;obtain⟨v3,H3,e3,r3,n3,k3,o3,kp3⟩:=r2.app (t:=68) (cs:= [str name,str value]) (a:=(name,value)) Tryz.underlying68 nF (by omega) (by omega) (by unfold aH;omega) rfl (fun h=>h);have oa:ay v2 H.n:=r2.off_lt (by omega);have ob:ay v2 (H.n+1):=r2.off_lt (by omega);have a3:=(k3 _ (by omega) oa).trans a2;have b3:=(k3 _ (by omega) ob).trans b2;have cv3:=r3.cell;obtain⟨H4,hH4⟩: ∃H4,H4=H3.new ⟨[str t,str u,v3],70,true⟩:=⟨_,rfl⟩
 have le4:H3.le H4:=by rw [hH4];exact le_refl.new
 have a4:=(le4.2 H.n (by omega)).trans a3;have b4:=(le4.2 (H.n+1) (by omega)).trans b3;have c4:H4.get H3.n=some ⟨[str t,str u,v3],70,true⟩:=by rw [hH4];exact ak
 have r4:=r3.le le4
 have hps: ∀p∈ps++ [(name,value)],p.1.length<=1000000/\p.2.length<=1000000:=fun p hp=>by
  rcases List.mem_append.1 hp with h|h
  ·exact hs p h
  ·rw [List.mem_singleton.1 h];exact⟨hnm,hvl⟩
 have e5:=wi (t:=t) (u:=u) r4.row (by rw [List.length_append,List.length_singleton];omega) hps ht hu;have hle0:H.le H4:=⟨by have:=le4.1;have:=le1.1;omega,fun k hk=>by rw [le4.2 k (by omega),k3 k (by omega) (r2.off_lt (by omega)),le2.2 k (by omega),le1.2 k hk]⟩
 have hr4:=hr.le hle0;have e6:=wi (t:=t) (u:=u) hr4 (by omega) hs ht hu;have e7:=lV (t:=t) (u:=u) (name:=name) hr4 (by omega);have e8:=fun H:LH=>uU (H:=H) hvl;have d1:(H.n=H.n+1)=False:=eq_false (by omega);have d2:(H.n+1=H.n)=False:=eq_false (by omega);have m1:(H.n=H2.n)=False:=eq_false (by omega);have m2:(H.n=H3.n)=False:=eq_false (by omega);unfold Tg.Mi.withP;have hbp: ∀H:LH,aG Tryz.prog 68 1 [(0,.agg #[str name,str value])] H=some (sl H.n 1 1,H.new ⟨[str name,str value],229,true⟩):=fun H=>Pb (a:=(name,value));have n4:=le4.1;cases hg:Tg.Mi.goodM ⟨t,u,ps++ [(name,value)]⟩with
 |true=>
  rw [hg]at e5;simp only [if_true];simp [hcv,<-hH1,e2,a1,a2,a3,hbp,e3,m1,m2,cv3,<-hH4,c4,e5,b4];exact⟨hle0,(r4.keep1 (H':=H4.set (H.n+1) ⟨[str t,str u,v3],70,true⟩) (Nat.le_refl _) b4 (by show 70≠229;decide) (fun h=>h) (by omega) (fun k _ hne=>ah hne)).row⟩
 |false=>
  rw [hg]at e5;simp only [Bool.false_eq_true,if_false];cases hg2:Tg.Mi.goodM ⟨t,u,ps⟩with
  |false=>
   rw [hg2]at e6;simp [hcv,<-hH1,e2,a1,a2,a3,a4,hbp,e3,m1,m2,cv3,<-hH4,c4,e5,e6,b4];exact hle0
  |true=>
   rw [hg2]at e6;by_cases hf:0<=Tg.Mi.fnd name ps 0
   ·have hf:=eq_true hf;cases hv:value.all Tg.Mi.quo
    all_goals
     rw [hv]at e8;simp [hcv,<-hH1,e2,a1,a2,a3,a4,hbp,e3,m1,m2,cv3,<-hH4,c4,e5,e6,e7,e8,hf,b4];exact hle0
   ·have hf:=eq_false hf;simp [hcv,<-hH1,e2,a1,a2,a3,a4,hbp,e3,m1,m2,cv3,<-hH4,c4,e5,e6,e7,hf,b4];exact hle0
theorem eZ:Tg.Mi.charset= [99,104,97,114,115,101,116]:=rfl
theorem CB (hs: ∀p∈ps,p.1.length<=1000000/\p.2.length<=1000000):(Tg.Mi.parmP ps name).1.length<=1000000:=by
 unfold Tg.Mi.parmP;split
 ·simp
 ·rename_i h;rcases Tg.Mi.fnd_ge name ps 0 with hf|⟨j,hf,hj,_⟩
  ·rw [hf]at h;exact absurd (by decide) h
  ·rw [Nat.zero_add]at hf;rw [hf,Int.toNat_natCast,wg hj];exact(hs _ (List.getElem_mem hj)).2
theorem F7 (hr:bB ln 229 N H v m.ps) (hl:m.ps.length<=10000) (hN:N<=H.n) (hs: ∀p∈m.ps,p.1.length<=1000000/\p.2.length<=1000000) (ht:m.t.length<=1000000) (hu:m.s.length<=1000000) (ht':t.length<=1000000) (hu':u.length<=1000000) (hset:set.length<=1000000) (hw:aC w=true):
  fv Tryz.prog EJ 172 [mv t u w,str set,mv m.t m.s v] H fun H' r=> ∃v',r=.tuple #[mv (Tg.Mi.stepP t u set m).1.t (Tg.Mi.stepP t u set m).1.s v',str (Tg.Mi.stepP t u set m).2]/\bB ln 229 N H' v' (Tg.Mi.stepP t u set m).1.ps:=by
 refine cI ?_ (fun v H' hf h=>by
  obtain⟨w,rfl,h⟩:=h;exact⟨w,rfl,h.flat (gQ hf h.cell)⟩)
 refine aD (P:=Tryz.prog) (E:=EJ) (f:=172) rfl Tryz.func172 rfl (Nat.le_of_ble_eq_true rfl) (by decide) (by kernel_rfl) ?_;have hcv:=hr.cell;obtain⟨H1,hH1⟩: ∃H1,H1=((H.new ⟨[str t,str u,w],70,true⟩).new ⟨[str m.t,str m.s,v],70,true⟩).new ⟨[str [],str [],.slice none 0 0],70,true⟩:=⟨_,rfl⟩
 have le1:H.le H1:=by rw [hH1];exact le_refl.new.new.new
 have n1:H1.n=H.n+1+1+1:=by rw [hH1];rfl
 have a1:H1.get H.n=some ⟨[str t,str u,w],70,true⟩:=by rw [hH1,aa (by simp;omega),aa (by simp),ak]
 have b1:H1.get (H.n+1)=some ⟨[str m.t,str m.s,v],70,true⟩:=by rw [hH1,aa (by simp)];exact ak
 have c1:H1.get (H.n+1+1)=some ⟨[str [],str [],.slice none 0 0],70,true⟩:=by rw [hH1];exact ak
 have hr1:=hr.le le1;have e1:=Cz (H:=H1) (t:=m.t) (u:=m.s) (name:= [99,104,97,114,115,101,116]) hr1 (by omega);rw [<-eZ]at e1;have e2:=fun H:LH=>nC (H:=H) ht' hu' hw;have e3:=fun H:LH=>nC (H:=H) ht hu hcv;have hnow:=CB (name:=Tg.Mi.charset) hs;have d1:(H.n=H.n+1)=False:=eq_false (by omega);have d2:(H.n=H.n+1+1)=False:=eq_false (by omega);have d3:(H.n+1=H.n+1+1)=False:=eq_false (by omega);have d4:(H.n+1+1=H.n+1)=False:=eq_false (by omega);have d5:(H.n+1+1=H.n)=False:=eq_false (by omega);have d6:(H.n+1=H.n)=False:=eq_false (by omega);obtain⟨v2,H2,o2,le2,w2,⟨rfl⟩,r2⟩:=CA (t:=m.t) (u:=m.s) hr1 (by omega) (by omega);have b2:=(le2.2 (H.n+1) (by omega)).trans b1;have c2:=(le2.2 (H.n+1+1) (by omega)).trans c1;have n2:=le2.1;have cw2:=r2.cell
 have fin: ∀(G:LH) (zs:List Tg.Mi.Par) (x:Value),H.le G->G.get (H.n+1+1)=some ⟨[str [],str [],.slice none 0 0],70,true⟩->bB ln 229 N G x zs->bB ln 229 N (G.set (H.n+1+1) ⟨[str m.t,str m.s,x],70,true⟩) x zs:=fun G zs x h1 h2 h3=>h3.keep ⟨Nat.le_refl _,fun k b hk hb hor=>by
  by_cases hkc:k=H.n+1+1
  ·subst hkc;rw [h2]at hb;injection hb with hb;subst hb;rcases hor with h4|h4|h4
   ·omega
   ·exact absurd h4 (by show 70≠229;decide)
   ·exact h4.elim
  ·rw [ah hkc];exact hb⟩
 unfold Tg.Mi.stepP;simp only [eZ]at e1 hnow;by_cases q1:Tg.Mi.essP t u=Tg.Mi.essP m.t m.s
 ·rw [if_neg (fun h=>h q1)];have q1:=eq_true q1;cases q2:(Tg.Mi.parmP m.ps Tg.Mi.charset).2 with
  |true=>
   rw [eZ]at q2;rw [q2]at e1;simp only [Bool.true_eq_false,false_and,if_false];simp [hw,hcv,<-hH1,e1,e2,e3,a1,b1,c1,q1,o2,b2,c2,cw2,d1,d2,d3,d4,d5,d6];exact⟨(le1.trans le2).set (by omega),fin _ _ _ (le1.trans le2) c2 r2⟩
  |false=>
   rw [eZ]at q2;rw [q2]at e1;by_cases q3:set= []
   ·subst q3;simp only [ne_eq,not_true_eq_false,false_and,and_false,if_false];simp [hw,hcv,<-hH1,e1,e2,e3,a1,b1,c1,q1,o2,b2,c2,cw2,d1,d2,d3,d4,d5,d6];exact⟨(le1.trans le2).set (by omega),fin _ _ _ (le1.trans le2) c2 r2⟩
   ·have q3f:=eq_false q3;obtain⟨r3,H3,o3,le3,R3⟩:=F6 (t:=m.t) (u:=m.s) (name:= [99,104,97,114,115,101,116]) (value:=set) hr1 hl (by omega) hs ht hu (by decide) hset;rw [<-eZ]at R3;have n3:=le3.1;cases q4:Tg.Mi.goodM (Tg.Mi.withP m Tg.Mi.charset set)with
    |true=>
     have q4':Tg.Mi.goodM (Tg.Mi.withP ⟨m.t,m.s,m.ps⟩ Tg.Mi.charset set)=true:=q4;rw [if_pos q4']at R3;obtain⟨v3,rfl,r3⟩:=R3;have cv3:=r3.cell;rw [if_pos ⟨rfl,q3,rfl⟩];have c3:=(le3.2 (H.n+1+1) (by omega)).trans c1;obtain⟨H4,hH4⟩: ∃H4,H4=H3.new ⟨[str m.t,str m.s,v3],70,true⟩:=⟨_,rfl⟩
     have le4:H3.le H4:=by rw [hH4];exact le_refl.new
     have c4:=(le4.2 (H.n+1+1) (by omega)).trans c3;have g4:H4.get H3.n=some ⟨[str m.t,str m.s,v3],70,true⟩:=by rw [hH4];exact ak
     have m1:(H.n+1+1=H3.n)=False:=eq_false (by omega);simp [hw,hcv,<-hH1,e1,e2,e3,a1,b1,c1,q1,q3f,o3,cv3,<-hH4,c4,g4,d1,d2,d3,d4,d5,d6,m1];have hle:=(le1.trans le3).trans le4;exact⟨hle.set (by omega),v3,⟨rfl,rfl,rfl⟩,fin _ _ _ hle c4 (r3.le le4)⟩
    |false=>
     have q4': ¬Tg.Mi.goodM (Tg.Mi.withP ⟨m.t,m.s,m.ps⟩ Tg.Mi.charset set)=true:=by
      show¬Tg.Mi.goodM (Tg.Mi.withP m Tg.Mi.charset set)=true;rw [q4];decide
     rw [if_neg q4']at R3;obtain⟨e,he,rfl⟩:=R3;have he:=eq_false he;simp only [Bool.false_eq_true,and_false,if_false];have b3:=(le3.2 (H.n+1) (by omega)).trans b1;have c3:=(le3.2 (H.n+1+1) (by omega)).trans c1;obtain⟨H4,hH4⟩: ∃H4,H4=H3.new ⟨[str [],str [],.slice none 0 0],70,true⟩:=⟨_,rfl⟩
     have le4:H3.le H4:=by rw [hH4];exact le_refl.new
     have b4:=(le4.2 (H.n+1) (by omega)).trans b3;have c4:=(le4.2 (H.n+1+1) (by omega)).trans c3;have g4:H4.get H3.n=some ⟨[str [],str [],.slice none 0 0],70,true⟩:=by rw [hH4];exact ak
     have hss:H4.set H3.n ⟨[str [],str [],.slice none 0 0],70,true⟩=H4:=by rw [hH4,vD]
     have hle4:=(le1.trans le3).trans le4;obtain⟨v5,H5,o5,le5,w5,⟨rfl⟩,r5⟩:=CA (t:=m.t) (u:=m.s) (hr.le hle4) (by omega) (by have:=hle4.1;omega);have n4:=le4.1;have c5:=(le5.2 (H.n+1+1) (by omega)).trans c4;have cw5:=r5.cell;have m1:(H.n+1=H3.n)=False:=eq_false (by omega);simp [hw,hcv,<-hH1,e1,e2,e3,a1,b1,c1,q1,q3f,o3,he,<-hH4,g4,hss,b4,o5,c5,cw5,d1,d2,d3,d4,d5,d6,m1];have hle:=hle4.trans le5;exact⟨hle.set (by omega),fin _ _ _ hle c5 r5⟩
 ·rw [if_pos q1];have q1:=eq_false q1;simp [hw,hcv,<-hH1,e1,e2,e3,a1,b1,c1,q1,o2,b2,c2,cw2,d1,d2,d3,d4,d5,d6];exact⟨(le1.trans le2).set (by omega),w2,⟨rfl,rfl⟩,fin _ _ _ (le1.trans le2) c2 r2⟩
end
end Go.Proofs.YtbeoilidocfofaaGreatDoor.Mi
namespace Tg.Mi
end Tg.Mi
namespace Go.Proofs.YtbeoilidocfofaaGreatDoor.Mi
open Go.Lg Go.Tg
section
variable {H H':LH} {N M:Nat} {s t:List UInt8} {v w:Value}
end
section
variable {H H':LH} {N M:Nat} {s t u name:List UInt8} {v w:Value} {ps:List Tg.Mi.Par}
end
end Go.Proofs.YtbeoilidocfofaaGreatDoor.Mi
namespace Tg.Mi
end Tg.Mi
namespace Go.Proofs.YtbeoilidocfofaaGreatDoor.Mi
open Go.Lg Go.Tg
section
variable {H H':LH} {N M:Nat} {s t u name:List UInt8} {v w:Value} {ps:List Tg.Mi.Par}
end
section
variable {H H':LH} {N M b c l i:Nat} {s t:List UInt8} {v w p:Value} {xs:List (List UInt8)}
theorem CC:ax Tryz.prog 9=some we.n:=by kernel_rfl
theorem sV {D:Nat} {C:LB} {y z:List UInt8} {vb vo:Value} {out:List (List UInt8)} (hb:Bld D H b y vb) (how:bJ we 9 N D H vo out) (hN:N<=D) (hDb:D<=b) (hc:H.get c=some C) (hcn:c<H.n) (hcb:c≠b) (hC1:C.elem≠5) (hC2:C.elem≠9) (hy:y.length<=maxLen) (ho:out.length+1<=aH):
  ∃H5 v7 H7 H8,LC Tryz.prog EJ 179 [ptr b 0] H=some (str y,H5)/\eJ Tryz.prog 116 vo (some (1,[str z])) (H5.new ⟨[str z],9,true⟩)=some (v7,H7)/\LC Tryz.prog EJ 180 [ptr b 0] H7=some (.tuple #[],H8)/\aC v7=true/\
   Bld D H8 b [] (.slice none 0 0)/\bJ we 9 N D H8 v7 (out++ [z])/\H8.get c=some C/\H.n<=H8.n/\ ∀k,k<D->H8.get k=H.get k:=by
 obtain⟨H5,e5,n5,k5⟩:=qj hb hy;obtain⟨p,gb,hp⟩:=hb.get;have hlt:=hb.lt;have hoff: ∀k,k<D->ay vb k:=fun k hk=>hb.row.off_lt hk;have how5:bJ we 9 N D H5 vo out:=how.keep ⟨by omega,fun k b hk hb hor=>by rcases hor with h|h;exact(by rw [k5 k (hoff k (by omega))];exact hb);exact h.elim⟩ (fun k h1 hno hk=>k5 k (gu how hb (by decide) hno));obtain⟨v7,H7,a7,r7,n7,k7,o7,kp7⟩:=how5.app (t:=116) (cs:= [str z]) (a:=z) Tryz.underlying116 CC hN (by have:=hb.N;omega) ho rfl (fun h=>h);have g5b:H5.get b=some ⟨[p,vb],180,true⟩:=by rw [k5 b hb.off];exact gb
 have ob:ay vo b:=how5.off_elem g5b (by show 180≠9;decide);have g7b:H7.get b=some ⟨[p,vb],180,true⟩:=by rw [k7 b (by omega) ob];exact g5b
 have g5c:H5.get c=some C:=by rw [k5 c (hb.off_of hc hC1)];exact hc
 have g7c:H7.get c=some C:=by rw [k7 c (by omega) (how5.off_elem g5c hC2)];exact g5c
 refine⟨H5,v7,H7,H7.set b ⟨[.pointer none,.slice none 0 0],180,true⟩,e5,a7,F3 g7b (by omega),r7.cell,?_,?_,?_,?_,?_⟩
 ·exact⟨⟨_,aw,.inl rfl⟩,bA.nil,(by unfold Full;simp),(fun n c e=>by cases e),(by rw [cG];omega),(by rw [cG];have:=hb.N;omega),fun _=>rfl⟩
 ·refine r7.keep ⟨Nat.le_refl _,fun k b hk hb hor=>by rcases hor with h|h;exact(by rw [ah (by omega)];exact hb);exact h.elim⟩ (fun k _ hno _=>ah (fun e=>hno (e▸o7 b (by omega) ob)))
 ·rw [ah hcb];exact g7c
 ·rw [cG];omega
 ·intro k hk;rw [ah (by omega),k7 k (by have:=hb.N;omega) (how5.off_lt hk),k5 k (hoff k hk)]
theorem sW (hN:N<=H.n) (hs:s.length<=100000):fv Tryz.prog EJ 117 [str s] H fun H' v=>bB we 9 N H' v (Tg.Mi.splitP s):=by
 refine cI ?_ (fun v H' hf h=>h.flat hf);refine aD (P:=Tryz.prog) (E:=EJ) (f:=117) rfl Tryz.func117 rfl (Nat.le_of_ble_eq_true rfl) (by decide) (by kernel_rfl) ?_;obtain⟨T,hT⟩: ∃T,T=Tg.Mi.splitP s:=⟨_,rfl⟩
 rw [<-hT];obtain⟨Hb,hHb⟩: ∃Hb,Hb=(H.new ⟨[.pointer none,.slice none 0 0],180,true⟩).new (cu s 0):=⟨_,rfl⟩
 have hnb:Hb.n=H.n+1+1:=by rw [hHb];rfl
 have hnew:=nn (H:=H.new ⟨[.pointer none,.slice none 0 0],180,true⟩) (s:=s);rw [<-hHb,aL]at hnew;have hob: ∀k,k<H.n->Hb.get k=H.get k:=fun k hk2=>by rw [hHb,aa (by simp;omega),aa (by omega)]
 have gb:Hb.get H.n=some ⟨[.pointer none,.slice none 0 0],180,true⟩:=by rw [hHb,aa (by simp),ak]
 have gc:Hb.get (H.n+1)=some (cu s 0):=by rw [hHb];exact ak
 have bl:Bld H.n Hb H.n [] (.slice none 0 0):=⟨⟨_,gb,.inl rfl⟩,bA.nil,(by unfold Full;simp),(fun n c e=>by cases e),(by omega),(by omega),fun _=>rfl⟩
 simp [hnew];refine aK (fun(j:Nat) fr' H'=> ∃acc out vb vo,fr' 3=vo/\fr' 4=ptr H.n 0/\fr' 5=ptr (H.n+1) 0/\j<=s.length/\acc.length<=j/\out.length<=j/\Bld H.n H' H.n acc vb/\bJ we 9 N H.n H' vo out/\H'.get (H.n+1)=some (cu s j)/\H.n+2<=H'.n/\(∀k,k<H.n->H'.get k=H.get k)/\T=out++(Tg.Mi.cutQ (s.length-j) (s.drop j) acc).map Tg.Mi.trimP) (fun j=>s.length-j) 0 ⟨[],[],_,_,by simp,by simp,by simp,Nat.zero_le _,by simp,by simp,bl,bJ.nil,gc,by omega,hob,by rw [hT];rfl⟩ ?_;rintro j fr' H2 ⟨acc,out,vb,vo,f3,f4,f5,hj,hacc,hout,hbl,how,hcu,hn2,hold,hq⟩ ih;have hu:=dK (t:= [34,44]) hcu (by omega) hj (by omega);have hul:=Tg.Mi.until_le [34,44] (s.drop j);have hdl:(s.drop j).length=s.length-j:=List.length_drop;rw [Tg.Mi.cutQ_until _ _ _ (by omega),List.drop_drop]at hq;have hstop:=fun b r=>Tg.Mi.until_stopG (t:= [34,44]) (x:=s.drop j) (b:=b) (r:=r);rw [List.drop_drop]at hstop;have hxl:((s.drop j).take (Tg.Mi.until_ [34,44] (s.drop j))).length=Tg.Mi.until_ [34,44] (s.drop j):=by rw [List.length_take];omega
 generalize (s.drop j).take (Tg.Mi.until_ [34,44] (s.drop j))=x at*;generalize Tg.Mi.until_ [34,44] (s.drop j)=u at*;obtain⟨H3,hH3⟩: ∃H3,H3=H2.set (H.n+1) (cu s (j+u)):=⟨_,rfl⟩
 rw [<-hH3]at hu;have hn3:H3.n=H2.n:=by rw [hH3];rfl
 have hk3: ∀k,k≠H.n+1->H3.get k=H2.get k:=fun k hk=>by rw [hH3,ah hk]
 have hc3:H3.get (H.n+1)=some (cu s (j+u)):=by rw [hH3,aw]
 have ho2:ay vb (H.n+1):=hbl.off_of hcu (by show 163≠5;decide);have hbl3:=hbl.keep1 (H':=H3) (c:=H.n+1) (by omega) (by omega) ho2 (fun k _ h=>hk3 k h);have how3:bJ we 9 N H.n H3 vo out:=how.keep ⟨by omega,fun k b hk hb hor=>by rcases hor with h|h;exact(by rw [hk3 k (by omega)];exact hb);exact h.elim⟩ (fun k _ hno _=>hk3 k (fun e=>hno (e▸how.off_elem hcu (by show 163≠9;decide))));obtain⟨v4,H4,e4,b4,k4⟩:=qf (s:=x) hbl3 (by unfold aH;omega);have hn4:H3.n<=H4.n:=k4.n;have ho3:ay vb (H.n+1):=ho2;have hc4:H4.get (H.n+1)=some (cu s (j+u)):=by rw [k4.keep _ (by omega) (by omega) ho3];exact hc3
 have how4:bJ we 9 N H.n H4 vo out:=how3.keep ⟨hn4,fun k b hk hb hor=>by rcases hor with h|h;exact(by rw [k4.keep k hk (by omega) (hbl3.row.off_lt (by omega))];exact hb);exact h.elim⟩ (fun k h1 hno hk=>k4.keep k hk (fun e=>hno (by
  obtain⟨p,hg,_⟩:=hbl3.get;subst e;exact how3.off_elem hg (by show 180≠9;decide))) (gu how3 hbl3 (by decide) hno))
 have hold4: ∀k,k<H.n->H4.get k=H.get k:=fun k hk=>by rw [k4.keep k (by omega) (by omega) (hbl3.row.off_lt hk),hk3 k (by omega),hold k hk]
 have hpk:=ie hc4 (by omega);clear hbl hbl3 how how3 hold hH3;cases hy:s.drop (j+u)with
 |nil=>
  rw [hy]at hpk hq;have hlen4:(s.drop (j+u)).length=s.length-(j+u):=List.length_drop;rw [hy]at hlen4;have hlt:decide (j+u<s.length)=false:=decide_eq_false (by simp at hlen4;omega);rw [hlt]at hpk;have e6:=fun H:LH=>BM (H:=H) (s:=acc++x) (by simp;omega);obtain⟨H5,v7,H7,H8,e5,a7,e8,cv,b8,w8,c8,n8,k8⟩:=sV (z:=Tg.Mi.trimP (acc++x)) b4 how4 hN (Nat.le_refl _) hc4 (by omega) (by omega) (by show 163≠5;decide) (by show 163≠9;decide) (by unfold maxLen;simp;omega) (by unfold aH;omega)
  have hT2:T=out++ [Tg.Mi.trimP (acc++x)]:=by
   rw [hq];cases s.length-j<;>rfl
  unfold Tg.Mi.trimP at a7 hT2 w8;clear ih;simp [f3,f4,f5,hu,e4,hpk,e5,e6,a7,e8];rw [hT2];exact⟨⟨by omega,fun k hk=>by rw [k8 k hk,hold4 k hk]⟩,w8.row⟩
 |cons b r=>
  have hlen4:(s.drop (j+u)).length=s.length-(j+u):=List.length_drop;rw [hy]at hpk hq hlen4;have hlt:j+u<s.length:=by simp at hlen4;omega
  rw [decide_eq_true hlt]at hpk;have hpk:LC Tryz.prog EJ 176 [ptr (H.n+1) 0,.int .i64 0] H4=some (.tuple #[.int .u8 b.toNat,.bool true],H4):=hpk
  have hsb:s[j+u]=b:=by
   have:=List.drop_eq_getElem_cons hlt;rw [hy]at this;injection this with h1 h2;exact h1.symm
  have hr:s.drop (j+u+1)=r:=by rw [<-List.drop_drop,hy];rfl
  obtain⟨m,hm⟩: ∃m,s.length-j=m+1:=⟨s.length-j-1,by omega⟩
  rw [hm]at hq;unfold Tg.Mi.cutQ at hq;by_cases hb:b=34
  ·subst hb;rw [if_pos rfl]at hq;obtain⟨H5,e5,o5⟩:=nq hc4 (by omega) hlt hs hsb;rw [hr]at e5 o5;have hcl:=Tg.Mi.coll_le r;have hrl:r.length+1=s.length-(j+u):=by simpa using hlen4
   have hall:(34::(Tg.Mi.coll r).2.1).length<=1+(Tg.Mi.coll r).2.2:=by
    have:=Tg.Mi.coll_all r;rw [this];simp;omega
   have b5:=b4.keep1 (H':=H5) (c:=H.n+1) o5.n (by omega) (b4.off_of hc4 (by show 163≠5;decide)) (fun k hk hne=>o5.old k hk hne);have w5:bJ we 9 N H.n H5 vo out:=how4.keep ⟨o5.n,fun k b hk hb hor=>by rcases hor with h|h;exact(by rw [o5.old k hk (by omega)];exact hb);exact h.elim⟩ (fun k _ hno hk=>o5.old k hk (fun e=>hno (e▸how4.off_elem hc4 (by show 163≠9;decide))));obtain⟨v6,H6,e6,b6,k6⟩:=qf (s:=34::(Tg.Mi.coll r).2.1) b5 (by unfold aH;rw [List.length_append];omega);have hcx:=o5.get
   have w6:bJ we 9 N H.n H6 vo out:=w5.keep ⟨k6.n,fun k b hk hb hor=>by rcases hor with h|h;exact(by rw [k6.keep k hk (by omega) (b5.row.off_lt (by omega))];exact hb);exact h.elim⟩ (fun k h1 hno hk=>k6.keep k hk (fun e=>hno (by
    obtain⟨p,hg,_⟩:=b5.get;subst e;exact w5.off_elem hg (by show 180≠9;decide))) (gu w5 b5 (by decide) hno))
   have hc6:H6.get (H.n+1)=some (cu s (j+u+1+(Tg.Mi.coll r).2.2)):=by
    rw [k6.keep _ (by have:=o5.n;omega) (by omega) (b5.off_of hcx (by show 163≠5;decide))];exact hcx
   have hn6:H.n+2<=H6.n:=by have:=o5.n;have:=k6.n;omega
   have hd:r.drop (Tg.Mi.coll r).2.2=s.drop (j+u+1+(Tg.Mi.coll r).2.2):=by rw [<-hr,List.drop_drop]
   rw [hd,Tg.Mi.cutQ_fuel m (s.length-(j+u+1+(Tg.Mi.coll r).2.2)) _ _ (by rw [List.length_drop];omega) (by rw [List.length_drop];omega)]at hq;have hfin:=fun fr2 (g3:fr2 3=vo) (g4:fr2 4=ptr H.n 0) (g5:fr2 5=ptr (H.n+1) 0)=>ih (j+u+1+(Tg.Mi.coll r).2.2) fr2 H6 (by omega) ⟨acc++x++34::(Tg.Mi.coll r).2.1,out,v6,vo,g3,g4,g5,by omega,by rw [List.length_append,List.length_append];omega,by omega,b6,w6,hc6,hn6,fun k hk=>by rw [k6.keep k (by have:=o5.n;omega) (by omega) (b5.row.off_lt hk),o5.old k (by omega) (by omega),hold4 k hk],by rw [List.append_assoc]at hq⊢;exact hq⟩;clear ih hq;have hb34:((UInt8.toNat 34:Nat):Int)=34:=rfl;rw [hb34]at hpk;simp [f3,f4,f5,hu,e4,hpk,e5,e6];refine hfin _ ?_ ?_ ?_
   all_goals simp [f3,f4,f5]
  ·have hb44:b=44:=by
    have h1:=hstop b r hy;by_cases h2:b=44
    ·exact h2
    ·exact absurd ((Tg.Mi.comma_iff b).2 ⟨hb,h2⟩) h1
   subst hb44;rw [if_neg (by decide),if_pos rfl]at hq;have e6:=fun H:LH=>BM (H:=H) (s:=acc++x) (by simp;omega);obtain⟨H5,v7,H7,H8,e5,a7,e8,cv,b8,w8,c8,n8,k8⟩:=sV (z:=Tg.Mi.trimP (acc++x)) b4 how4 hN (Nat.le_refl _) hc4 (by omega) (by omega) (by show 163≠5;decide) (by show 163≠9;decide) (by unfold maxLen;simp;omega) (by unfold aH;omega);have e9:=qh c8 (by omega) hlt (by omega);rw [<-hr,Tg.Mi.cutQ_fuel m (s.length-(j+u+1)) _ _ (by rw [List.length_drop];omega) (by rw [List.length_drop];omega),List.map_cons]at hq
   have hfin:=fun fr2 (g3:fr2 3=v7) (g4:fr2 4=ptr H.n 0) (g5:fr2 5=ptr (H.n+1) 0)=>ih (j+u+1) fr2 (H8.set (H.n+1) (cu s (j+u+1))) (by omega) ⟨[],out++ [Tg.Mi.trimP (acc++x)],_,v7,g3,g4,g5,by omega,Nat.zero_le _,by rw [List.length_append,List.length_singleton];omega,
    b8.keep1 (c:=H.n+1) (Nat.le_refl _) (by omega) (fun n c e=>by cases e) (fun k _ hne=>ah hne),
    w8.keep ⟨Nat.le_refl _,fun k b hk hb hor=>by rcases hor with h|h;exact(by rw [ah (by omega)];exact hb);exact h.elim⟩ (fun k _ hno _=>ah (fun e=>hno (e▸w8.off_elem c8 (by show 163≠9;decide)))),
    aw,by rw [cG];omega,fun k hk=>by rw [ah (by omega),k8 k hk,hold4 k hk],by rw [List.append_assoc];exact hq⟩
   unfold Tg.Mi.trimP at a7 hfin;clear ih hq;have hb44:((UInt8.toNat 44:Nat):Int)=44:=rfl;rw [hb44]at hpk;simp [f3,f4,f5,hu,e4,hpk,e5,e6,a7,e8,e9];refine hfin _ ?_ ?_ ?_
   all_goals simp [f3,f4,f5]
end
end Go.Proofs.YtbeoilidocfofaaGreatDoor.Mi
namespace Tg.Mi
def valuesP (xs:List (List UInt8)):List (List UInt8):=if xs= []then []else splitP (Tg.Hd.joinC xs)
def every:List UInt8:= [42,47,42]
def oneP (s:List UInt8):Option Mim:=match parseP s with
 |some m=>if essP m.t m.s=every then none else some m
 |none=>none
def allP (l:List (List UInt8)):List Mim:=l.filterMap oneP
def foldM:List Mim->Mim×List UInt8->Mim×List UInt8
 | [],x=>x
 |n::l,x=>foldM l (stepP x.1.t x.1.s x.2 n)
def extractP (xs:List (List UInt8)):Option Mim:=if allP (valuesP xs)= []then none else some (foldM (allP (valuesP xs)) (⟨[],[],[]⟩,[])).1
def BdM (B:Nat) (m:Mim):Prop:=m.t.length<=B/\m.s.length<=B/\m.ps.length<=B/\ ∀p∈m.ps,p.1.length<=B/\p.2.length<=B
theorem F8 (y:List UInt8):(parP y).1.1.length<=y.length/\(parP y).1.2.length<=y.length:=by
 have hn:(Tg.Lo.lower ((y.drop (while_ white y)).take (until_ [59,61] (y.drop (while_ white y))))).length<=y.length:=by
  rw [show∀z:List UInt8,(Tg.Lo.lower z).length=z.length from fun z=>by simp [Tg.Lo.lower]];rw [List.length_take,List.length_drop];omega
 unfold parP;split
 ·rename_i z hz;have h3:=congrArg List.length hz;rw [List.length_drop,List.length_cons]at h3;split
  ·exact⟨hn,by simp⟩
  ·have:=valP_len z;exact⟨hn,by show(valP z).1.length<=y.length;omega⟩
 ·exact⟨hn,by simp⟩
theorem nH {B:Nat} : ∀(n:Nat) (x:List UInt8) (ps:List Par),x.length<=B->(∀p∈ps,p.1.length<=B/\p.2.length<=B)->(parsP n x ps).length<=ps.length+x.length/\ ∀p∈parsP n x ps,p.1.length<=B/\p.2.length<=B
 |0,x,ps,_,h=>⟨by simp [parsP],h⟩
 |n+1,x,ps,hx,h=>by
  unfold parsP;split
  ·rename_i y;simp only [List.length_cons]at hx⊢;have hb:=F8 y;have hd:(y.drop (parP y).2.2).length<=y.length:=by rw [List.length_drop];omega
   split
   ·have h2:=nH (B:=B) n (y.drop (parP y).2.2) (ps++ [(parP y).1]) (by omega) (fun p hp=>by
     rcases List.mem_append.1 hp with h1|h1
     ·exact h p h1
     ·rw [List.mem_singleton.1 h1];omega)
    refine⟨?_,h2.2⟩;have:=h2.1;rw [List.length_append,List.length_singleton]at this;omega
   ·have h2:=nH (B:=B) n (y.drop (parP y).2.2) ps (by omega) h;exact⟨by have:=h2.1;omega,h2.2⟩
  ·exact⟨by omega,h⟩
theorem parseP_bd {B:Nat} {s:List UInt8} {m:Mim} (hs:s.length<=B) (ht:(Tg.Hd.trim s).length<=s.length) (h:parseP s=some m):BdM B m:=by
 unfold parseP at h;split at h
 ·rename_i b r hr;have h3:=congrArg List.length hr;rw [List.length_drop,List.length_cons]at h3;split at h
  ·injection h with h;subst h;have hlow: ∀z:List UInt8,(Tg.Lo.lower z).length=z.length:=fun z=>by simp [Tg.Lo.lower]
   have hb:=back_le white (r.take (until_ [59] r));rw [List.length_take]at hb;have hp:=nH (B:=B) (r.length+1) (r.drop (until_ [59] r)) [] (by rw [List.length_drop];omega) (by simp);have hp1:=hp.1;rw [List.length_drop,List.length_nil]at hp1;exact⟨by rw [hlow,List.length_take];omega,by rw [hlow];omega,by show(parsP _ _ _).length<=B;omega,hp.2⟩
  ·cases h
 ·cases h
theorem lW {B:Nat} : ∀(n:Nat) (x acc:List UInt8),acc.length+x.length<=B-> ∀p∈cutQ n x acc,p.length<=B
 |0,x,acc,h,p,hp=>by simp [cutQ]at hp;subst hp;omega
 |n+1,[],acc,h,p,hp=>by simp [cutQ]at hp;subst hp;simpa using h
 |n+1,b::r,acc,h,p,hp=>by
  simp only [List.length_cons]at h;unfold cutQ at hp;split at hp
  ·have h1:=coll_all r;have h2:=coll_le r;exact lW n _ _ (by rw [List.length_append,List.length_cons,List.length_drop,h1,List.length_take];omega) p hp
  ·split at hp
   ·rcases List.mem_cons.1 hp with h1|h1
    ·subst h1;omega
    ·exact lW n r [] (by simp;omega) p h1
   ·exact lW n r (acc++ [b]) (by rw [List.length_append,List.length_singleton];omega) p hp
theorem jU: ∀(n:Nat) (x acc:List UInt8),(cutQ n x acc).length<=x.length+1
 |0,x,acc=>by simp [cutQ]
 |n+1,[],acc=>by simp [cutQ]
 |n+1,b::r,acc=>by
  unfold cutQ;split
  ·have:=jU n (r.drop (coll r).2.2) (acc++34::(coll r).2.1);rw [List.length_drop]at this;simp only [List.length_cons];omega
  ·split
   ·have:=jU n r [];simp only [List.length_cons];omega
   ·have:=jU n r (acc++ [b]);simp only [List.length_cons];omega
theorem CD (s:List UInt8):(trimP s).length<=s.length:=by
 have:=back_le tab s;unfold trimP;rw [List.length_drop];omega
theorem valuesP_bd {B:Nat} {xs:List (List UInt8)} (h:(Tg.Hd.joinC xs).length<=B):(valuesP xs).length<=B+1/\ ∀p∈valuesP xs,p.length<=B:=by
 unfold valuesP;split
 ·simp
 ·unfold splitP;refine⟨?_,fun p hp=>?_⟩
  ·have:=jU (Tg.Hd.joinC xs).length (Tg.Hd.joinC xs) [];rw [List.length_map];omega
  ·obtain⟨q,hq,rfl⟩:=List.mem_map.1 hp;exact Nat.le_trans (CD q) (lW _ _ _ (by simpa using h) q hq)
theorem stepP_bd {B:Nat} {t s set:List UInt8} {n:Mim} (hn:BdM B n) (hs:set.length<=B) (hc:charset.length<=B):BdM (B+1) (stepP t s set n).1/\(stepP t s set n).2.length<=B:=by
 have hp:(parmP n.ps charset).1.length<=B:=by
  unfold parmP;split
  ·simp
  ·rename_i h;rcases fnd_ge charset n.ps 0 with hf|⟨j,hf,hj,_⟩
   ·rw [hf]at h;exact absurd (by decide) h
   ·rw [Nat.zero_add]at hf;rw [hf,Int.toNat_natCast,List.getD_eq_getElem?_getD,List.getElem?_eq_getElem hj];exact(hn.2.2.2 _ (List.getElem_mem hj)).2
 have hup:BdM (B+1) n:=⟨Nat.le_succ_of_le hn.1,Nat.le_succ_of_le hn.2.1,Nat.le_succ_of_le hn.2.2.1,fun p hp=>⟨Nat.le_succ_of_le (hn.2.2.2 p hp).1,Nat.le_succ_of_le (hn.2.2.2 p hp).2⟩⟩
 unfold stepP;split
 ·exact⟨hup,hp⟩
 ·split
  ·refine⟨⟨hup.1,hup.2.1,by show(n.ps++ [(charset,set)]).length<=B+1;rw [List.length_append,List.length_singleton];have:=hn.2.2.1;omega,fun p hp=>?_⟩,hs⟩;rcases List.mem_append.1 hp with h1|h1
   ·exact hup.2.2.2 p h1
   ·rw [List.mem_singleton.1 h1];exact⟨Nat.le_succ_of_le hc,Nat.le_succ_of_le hs⟩
  ·exact⟨hup,hs⟩
end Tg.Mi
namespace Go.Proofs.YtbeoilidocfofaaGreatDoor.Mi
open Go.Lg Go.Tg
section
variable {H H':LH} {N M b c l i p:Nat} {s t u name value set:List UInt8} {v w:Value} {ps:List Tg.Mi.Par} {a:Tg.Mi.Par} {m:Tg.Mi.Mim} {xs:List (List UInt8)}
theorem yd:ax Tryz.prog 70=some MO.n:=by kernel_rfl
theorem Up:sz Tryz.prog 9=some we.n:=by kernel_rfl
theorem Uq:sz Tryz.prog 70=some MO.n:=by kernel_rfl
theorem ye (h:gn M H v xs) (hn:xs.length<=10000) (hl:(Tg.Hd.joinC xs).length<=100000) (hN:N<=H.n):fv Tryz.prog EJ 219 [v] H fun H' r=>bB we 9 N H' r (Tg.Mi.valuesP xs):=by
 refine cI ?_ (fun v H' hf h=>h.flat hf);refine aD (P:=Tryz.prog) (E:=EJ) (f:=219) rfl Tryz.func219 rfl (Nat.le_of_ble_eq_true rfl) (by decide) (by kernel_rfl) ?_;have hlen:=fun H2:LH=>gn.len h (H':=H2);unfold Tg.Mi.valuesP;by_cases hx:xs= []
 ·subst hx;simp at hlen;simp [hlen];exact bB.nil
 ·have q:=eq_false (show¬(xs.length:Int)=0 by intro e;exact hx (List.eq_nil_of_length_eq_zero (by omega)))
  have hj:LC Tryz.prog EJ 225 [v] H=some (str (Tg.Hd.joinC xs),H):=by
   have hj:LC Tryz.prog EJ 259 [v,str [44,32]] H=some (str (Tg.Hd.joinC xs),H):=by
    rcases h.2 with⟨rfl,h0⟩|⟨k,c,rest,rfl,g1,g2,g3,g4,g5⟩
    ·exact absurd (List.eq_nil_of_length_eq_zero h0) hx
    ·exact AX (n:=xs.length) g3 (by intro e;exact hx (List.eq_nil_of_length_eq_zero e)) g4 (by omega) rfl (by rw [List.drop_zero,List.take_left' (by simp)]) (by unfold Tg.Hd.joinC at hl;omega)
   refine ag rfl Tryz.func225 rfl (Nat.le_of_ble_eq_true rfl) (by decide) (by kernel_rfl) (by simp) ?_;simp [hj]
  obtain⟨v2,H2,e2,le2,r2⟩:=sW hN hl;rw [if_neg hx];simp [hlen,hx,hj,e2];exact⟨le2,r2⟩
theorem CE (hr:bB we 9 N H v xs) {i:Nat} (hi:i<xs.length): ∃k o,(∀H':LH,iu Tryz.prog 116 v (.int .i64 i) H'=some (ptr k o,H'))/\k<H.n/\ ∀H':LH,H'.get k=H.get k->gI Tryz.prog 9 (ptr k o) H'=some (str xs[i]):=by
 obtain⟨k,o,cs,h1,h2,h3,h4⟩:=hr.at (P:=Tryz.prog) (t:=116) Tryz.underlying116 Up hi;have h3:cs= [str xs[i]]:=h3;subst h3;exact⟨k,o,h1,h2,fun H' he=>(h4 H' he).2.1 0 _ _ (by kernel_rfl) rfl⟩
theorem F9 {ms:List Tg.Mi.Mim} (hr:bB MO 70 N H v ms) {i:Nat} (hi:i<ms.length): ∃k o w,(∀H':LH,iu Tryz.prog 171 v (.int .i64 i) H'=some (ptr k o,H'))/\k<H.n/\bB ln 229 N H w ms[i].ps/\ ∀H':LH,H'.get k=H.get k->gI Tryz.prog 70 (ptr k o) H'=some (mv ms[i].t ms[i].s w):=by
 obtain⟨k,o,cs,h1,h2,h3,h4⟩:=hr.at (P:=Tryz.prog) (t:=171) Tryz.underlying171 Uq hi;obtain⟨w,rfl,h5⟩:=h3;exact⟨k,o,w,h1,h2,h5,fun H' he=>(h4 H' he).1 (by kernel_rfl)⟩
theorem RA:aG Tryz.prog 171 1 [(0,mv t u v)] H=some (sl H.n 1 1,H.new ⟨[str t,str u,v],70,true⟩):=by
 unfold aG;simp [Instr.fill,Value.cells,Array.range];rfl
theorem K4 (h:gn M H v xs) (hn:xs.length<=10000) (hl:(Tg.Hd.joinC xs).length<=5000) (hN:N<=H.n):fv Tryz.prog EJ 171 [v] H fun H' r=>bJ MO 70 N H.n H' r (Tg.Mi.allP (Tg.Mi.valuesP xs)):=by
 refine cI ?_ (fun v H' hf h=>h.flat hf);refine aD (P:=Tryz.prog) (E:=EJ) (f:=171) rfl Tryz.func171 rfl (Nat.le_of_ble_eq_true rfl) (by decide) (by kernel_rfl) ?_;obtain⟨v1,H1,e1,le1,r1⟩:=ye h hn (by omega) hN;obtain⟨hb1,hb2⟩:=Tg.Mi.valuesP_bd hl;generalize Tg.Mi.valuesP xs=ys at*;have hlen:=fun H':LH=>r1.len (P:=Tryz.prog) (t:=116) (H':=H') Tryz.underlying116;simp [e1,hlen];refine aK (fun(i:Nat) fr' H'=> ∃vo,fr' 3=vo/\fr' 9=v1/\fr' 10=.int .i64 ys.length/\fr' 11=.int .i64 i/\i<=ys.length/\bJ MO 70 N H1.n H' vo (Tg.Mi.allP (ys.take i))/\H1.n<=H'.n/\(∀k,k<H1.n->H'.get k=H1.get k)) (fun i=>ys.length-i) 0 ⟨_,by simp,by simp,by simp,by simp,Nat.zero_le _,bJ.nil,Nat.le_refl _,fun _ _=>rfl⟩ ?_;rintro i fr' H2 ⟨vo,f3,f9,f10,f11,hi,how,hn2,hold⟩ ih;have le2:H1.le H2:=⟨hn2,hold⟩
 have r2:=r1.le le2;by_cases hlt:i<ys.length
 ·have q:=eq_true (show(i:Int)<(ys.length:Int) by omega);have hw:IntKind.i64.wrap ((i:Int)+1)=((i+1:Nat):Int):=by rw [wrapI (by omega) (by omega)];omega
  obtain⟨k,o,g1,g2,g3⟩:=CE r2 hlt;have g4:=g3 H2 rfl;have hyl:=hb2 ys[i] (List.getElem_mem hlt)
  have hnew:Tg.Mi.allP (ys.take (i+1))=Tg.Mi.allP (ys.take i)++(match Tg.Mi.oneP ys[i]with|some m=> [m]|none=> []):=by
   rw [List.take_succ_eq_append_getElem hlt];unfold Tg.Mi.allP;rw [List.filterMap_append];congr 1;simp only [List.filterMap_cons,List.filterMap_nil];cases Tg.Mi.oneP ys[i]<;>rfl
  have hol:(Tg.Mi.allP (ys.take i)).length<=i:=Nat.le_trans (List.length_filterMap_le _ _) (by rw [List.length_take];omega);obtain⟨v3,H3,e3,le3,r3⟩:=yb (s:=ys[i]) (show N<=H2.n by have:=le1.1;omega) (by omega);have how3:=how.le le3;have hbd:=fun m h=>Tg.Mi.parseP_bd (B:=5000) (m:=m) hyl (eN _) h;have ihx:=fun fr2 H5=>ih (i+1) fr2 H5 (by omega);clear ih;rw [hnew]at ihx;unfold Tg.Mi.oneP at ihx;generalize Tg.Mi.allP (ys.take i)=out at*;generalize ys[i]=y at*;cases hp:Tg.Mi.parseP y with
  |none=>
   rw [hp]at r3 ihx;have r3:v3=.tuple #[mv [] [] (.slice none 0 0),.int .i64 2]:=r3;subst r3;have hfin:=fun fr2 (g3:fr2 3=vo) (g9:fr2 9=v1) (g10:fr2 10=.int .i64 ys.length) (g11:fr2 11=.int .i64 ((i+1:Nat):Int))=>ihx fr2 (H3.new ⟨[str [],str [],.slice none 0 0],70,true⟩) ⟨vo,g3,g9,g10,g11,by omega,by simpa using how3.le le_refl.new,by rw [aL];have:=le3.1;omega,fun k hk=>by rw [aa (by have:=le3.1;omega),le3.2 k (by omega),hold k hk]⟩;clear ihx;simp [f3,f9,f10,f11,q,hlt,g1,g4,e3];refine hfin _ ?_ ?_ ?_ ?_
   all_goals simp [f3,f9,f10,hw]
  |some m=>
   rw [hp]at r3 ihx;obtain⟨vp,rfl,r3⟩:=r3;obtain⟨bt,bs,bp,bq⟩:=hbd m hp;have hcp:=r3.cell;obtain⟨H4,hH4⟩: ∃H4,H4=H3.new ⟨[str m.t,str m.s,vp],70,true⟩:=⟨_,rfl⟩
   have le4:H3.le H4:=by rw [hH4];exact le_refl.new
   have g6:H4.get H3.n=some ⟨[str m.t,str m.s,vp],70,true⟩:=by rw [hH4];exact ak
   have e5:=fun H:LH=>nC (H:=H) (t:=m.t) (u:=m.s) (v:=vp) (by omega) (by omega) hcp;have how4:=how3.le le4;have hev:Tg.Mi.every= [42,47,42]:=rfl;have hn3:=le3.1;have hn4:=le4.1;have hn1:=le1.1;by_cases hc:Tg.Mi.essP m.t m.s=Tg.Mi.every
   ·simp only [if_pos hc,List.append_nil]at ihx;have hc:=eq_true hc;rw [hev]at hc;have hfin:=fun fr2 (g3:fr2 3=vo) (g9:fr2 9=v1) (g10:fr2 10=.int .i64 ys.length) (g11:fr2 11=.int .i64 ((i+1:Nat):Int))=>ihx fr2 H4 ⟨vo,g3,g9,g10,g11,by omega,how4,by omega,fun k hk=>by rw [le4.2 k (by omega),le3.2 k (by omega),hold k hk]⟩;clear ihx;simp [f3,f9,f10,f11,q,hlt,g1,g4,e3,<-hH4,hcp,g6,e5,hc];refine hfin _ ?_ ?_ ?_ ?_
    all_goals simp [f3,f9,f10,hw]
   ·simp only [if_neg hc]at ihx;have hc:=eq_false hc;rw [hev]at hc;obtain⟨v5,H5,a5,r5,n5,k5,o5,kp5⟩:=how4.app (t:=171) (cs:= [str m.t,str m.s,vp]) (a:=m) Tryz.underlying171 yd (by omega) (by omega) (by unfold aH;omega) ⟨vp,rfl,r3.le le4⟩ (by show¬70=229;decide);have hfin:=fun fr2 (g3:fr2 3=v5) (g9:fr2 9=v1) (g10:fr2 10=.int .i64 ys.length) (g11:fr2 11=.int .i64 ((i+1:Nat):Int))=>ihx fr2 H5 ⟨v5,g3,g9,g10,g11,by omega,r5,by omega,fun k hk=>by rw [k5 k (by omega) (how4.off_lt hk),le4.2 k (by omega),le3.2 k (by omega),hold k hk]⟩;clear ihx;simp [f3,f9,f10,f11,q,hlt,g1,g4,e3,<-hH4,hcp,g6,e5,hc,RA,a5];refine hfin _ ?_ ?_ ?_ ?_
    all_goals simp [f3,f9,f10,hw]
 ·have q:=eq_false (show¬(i:Int)<(ys.length:Int) by omega);rw [List.take_of_length_le (by omega)]at how;simp [f3,f9,f10,f11,q,hlt];exact⟨le1.trans le2,how.weak le1.1⟩
end
section
variable {H H':LH} {N M:Nat} {s t u name:List UInt8} {v w:Value} {ps:List Tg.Mi.Par} {xs:List (List UInt8)}
end
end Go.Proofs.YtbeoilidocfofaaGreatDoor.Mi
namespace Tg.Mi
theorem F_ {B:Nat} {s:List UInt8} {m:Mim} (hs:s.length<=B) (ht:(Tg.Hd.trim s).length<=s.length) (h:oneP s=some m):BdM B m:=by
 unfold oneP at h;split at h
 ·rename_i m' hp;split at h
  ·cases h
  ·injection h with h;subst h;exact parseP_bd hs ht hp
 ·cases h
theorem allP_bd {B:Nat} {l:List (List UInt8)} (h: ∀s∈l,s.length<=B) (ht: ∀s:List UInt8,(Tg.Hd.trim s).length<=s.length): ∀m∈allP l,BdM B m:=by
 intro m hm;obtain⟨s,hs,e⟩:=List.mem_filterMap.1 hm;exact F_ (h s hs) (ht s) e
end Tg.Mi
namespace Go.Proofs.YtbeoilidocfofaaGreatDoor.Mi
open Go.Lg Go.Tg
section
variable {H H':LH} {N M b c l i p:Nat} {s t u name value set:List UInt8} {v w:Value} {ps:List Tg.Mi.Par} {a:Tg.Mi.Par} {m:Tg.Mi.Mim} {xs:List (List UInt8)}
def qK (e:Int) (N:Nat) (o:Option Tg.Mi.Mim) (H:LH) (r:Value):Prop:=match o with
 |some m=> ∃v,r=.tuple #[mv m.t m.s v,.int .i64 0]/\bB ln 229 N H v m.ps
 |none=>r=.tuple #[mv [] [] (.slice none 0 0),.int .i64 e]
theorem qK.flat {e:Int} {o:Option Tg.Mi.Mim} (h:qK e N o H' v) (hf:ao v=true):qK e N o H v:=by
 cases o with
 |none=>exact h
 |some m=>
  obtain⟨w,rfl,h⟩:=h;exact⟨w,rfl,h.flat (gQ hf h.cell)⟩
theorem uW (h:gn M H v xs) (hn:xs.length<=10000) (hl:(Tg.Hd.joinC xs).length<=5000) (hN:N<=H.n):fv Tryz.prog EJ 114 [v] H (qK 4 N (Tg.Mi.extractP xs)):=by
 refine cI ?_ (fun v H' hf h=>h.flat hf);refine aD (P:=Tryz.prog) (E:=EJ) (f:=114) rfl Tryz.func114 rfl (Nat.le_of_ble_eq_true rfl) (by decide) (by kernel_rfl) ?_;unfold Tg.Mi.extractP;obtain⟨H0,hH0⟩: ∃H0,H0=(H.new ⟨[str [],str [],.slice none 0 0],70,true⟩).new ⟨[str [],str [],.slice none 0 0],70,true⟩:=⟨_,rfl⟩
 have le0:H.le H0:=by rw [hH0];exact le_refl.new.new
 have n0:H0.n=H.n+1+1:=by rw [hH0];rfl
 have a0:H0.get H.n=some ⟨[str [],str [],.slice none 0 0],70,true⟩:=by rw [hH0,aa (by simp),ak]
 have b0:H0.get (H.n+1)=some ⟨[str [],str [],.slice none 0 0],70,true⟩:=by rw [hH0];exact ak
 have h0:gn M H0 v xs:=bA.keep h le0.1 (fun k _ _ hk=>le0.2 k hk);obtain⟨v1,H1,e1,le1,r1⟩:=K4 h0 hn hl (show N<=H0.n by omega);have hbd: ∀m∈Tg.Mi.allP (Tg.Mi.valuesP xs),Tg.Mi.BdM 5000 m:=Tg.Mi.allP_bd (Tg.Mi.valuesP_bd hl).2 eN;have hcl:(Tg.Mi.allP (Tg.Mi.valuesP xs)).length<=5001:=Nat.le_trans (List.length_filterMap_le _ _) (Tg.Mi.valuesP_bd hl).1;generalize Tg.Mi.allP (Tg.Mi.valuesP xs)=ms at*;have a1:=(le1.2 H.n (by omega)).trans a0;have b1:=(le1.2 (H.n+1) (by omega)).trans b0;have n1:=le1.1;have hlen:=fun H':LH=>r1.row.len (P:=Tryz.prog) (t:=171) (H':=H') Tryz.underlying171;obtain⟨T,hT⟩: ∃T,T=Tg.Mi.foldM ms (⟨[],[],[]⟩,[]):=⟨_,rfl⟩
 rw [<-hT];have d1:(H.n=H.n+1)=False:=eq_false (by omega);have d2:(H.n+1=H.n)=False:=eq_false (by omega);simp [<-hH0,e1,hlen];refine aK (fun(i:Nat) fr' H'=> ∃(m:Tg.Mi.Mim) (set:List UInt8) (vp:Value),fr' 2=ptr H.n 0/\fr' 4=ptr (H.n+1) 0/\fr' 5=str set/\fr' 6=v1/\fr' 11=v1/\fr' 12=.int .i64 ms.length/\fr' 13=.int .i64 i/\i<=ms.length/\H'.get H.n=some ⟨[str [],str [],.slice none 0 0],70,true⟩/\H'.get (H.n+1)=some ⟨[str m.t,str m.s,vp],70,true⟩/\bB ln 229 N H' vp m.ps/\bJ MO 70 N (H.n+1+1) H' v1 ms/\H.n+2<=H'.n/\(∀k,k<H.n->H'.get k=H.get k)/\Tg.Mi.BdM 5001 m/\set.length<=5000/\T=Tg.Mi.foldM (ms.drop i) (m,set)) (fun i=>ms.length-i) 0 ⟨⟨[],[],[]⟩,[],.slice none 0 0,by simp,by simp,by simp,by simp,by simp,by simp,by simp,Nat.zero_le _,a1,b1,bB.nil,r1.weak (by omega),by omega,fun k hk=>by rw [le1.2 k (by omega),le0.2 k hk],⟨by decide,by decide,by decide,by simp⟩,by simp,hT⟩ ?_;rintro i fr' H2 ⟨m,set,vp,f2,f4,f5,f6,f11,f12,f13,hi,ga,gb,hrp,how,hn2,hold,hbm,hsl,hq⟩ ih;have hcp:=hrp.cell;by_cases hlt:i<ms.length
 ·have q:=eq_true (show(i:Int)<(ms.length:Int) by omega);have hw:IntKind.i64.wrap ((i:Int)+1)=((i+1:Nat):Int):=by rw [wrapI (by omega) (by omega)];omega
  obtain⟨k,o,wp,g1,g2,g3,g4⟩:=F9 how.row hlt;have g4:=g4 H2 rfl;rw [List.drop_eq_getElem_cons hlt]at hq;have hbn:=hbd ms[i] (List.getElem_mem hlt);generalize ms[i]=nx at*;unfold Tg.Mi.foldM at hq;obtain⟨bt,bs,bp,bq⟩:=hbn;have hcw:=g3.cell;obtain⟨H3,hH3⟩: ∃H3,H3=H2.new ⟨[str nx.t,str nx.s,wp],70,true⟩:=⟨_,rfl⟩
  have le3:H2.le H3:=by rw [hH3];exact le_refl.new
  have n3:H3.n=H2.n+1:=by rw [hH3];rfl
  have c3:H3.get H2.n=some ⟨[str nx.t,str nx.s,wp],70,true⟩:=by rw [hH3];exact ak
  have gb3:=(le3.2 (H.n+1) (by omega)).trans gb;obtain⟨r4,H4,e4,le4,x4,rfl,r4⟩:=F7 (m:=nx) (t:=m.t) (u:=m.s) (w:=vp) (set:=set) (N:=N) (H:=H3) (g3.le le3) (by omega) (by omega) (fun p hp=>by have:=bq p hp;omega) (by omega) (by omega) (by have:=hbm.1;omega) (by have:=hbm.2.1;omega) (by omega) hcp;have hsb:=Tg.Mi.stepP_bd (t:=m.t) (s:=m.s) (set:=set) (n:=nx) (B:=5000) ⟨bt,bs,bp,bq⟩ hsl (by decide);generalize Tg.Mi.stepP m.t m.s set nx=X at*;have hcx:=r4.cell;have gb4:=(le4.2 (H.n+1) (by omega)).trans gb3;have ga4:=((le3.trans le4).2 H.n (by omega)).trans ga;have n4:=le4.1;have how4:=how.le (le3.trans le4);have m1:(H.n+1=H2.n)=False:=eq_false (by omega);have m2:(H.n=H2.n)=False:=eq_false (by omega)
  have hfin:=fun fr2 (g2:fr2 2=ptr H.n 0) (g4':fr2 4=ptr (H.n+1) 0) (g5:fr2 5=str X.2) (g6:fr2 6=v1) (g11:fr2 11=v1) (g12:fr2 12=.int .i64 ms.length) (g13:fr2 13=.int .i64 ((i+1:Nat):Int))=>ih (i+1) fr2 (H4.set (H.n+1) ⟨[str X.1.t,str X.1.s,x4],70,true⟩) (by omega) ⟨X.1,X.2,x4,g2,g4',g5,g6,g11,g12,g13,by omega,by rw [ah (by omega)];exact ga4,aw,
   r4.keep ⟨Nat.le_refl _,fun k b hk hb hor=>by
    by_cases hkc:k=H.n+1
    ·subst hkc;rw [gb4]at hb;injection hb with hb;subst hb;rcases hor with h4|h4|h4
     ·omega
     ·exact absurd h4 (by show 70≠229;decide)
     ·exact h4.elim
    ·rw [ah hkc];exact hb⟩,
   how4.keep ⟨Nat.le_refl _,fun k b hk hb hor=>by
    by_cases hkc:k=H.n+1
    ·subst hkc;rw [gb4]at hb;injection hb with hb;subst hb;rcases hor with h4|h4
     ·omega
     ·exact absurd h4 (by show¬70=229;decide)
    ·rw [ah hkc];exact hb⟩ (fun k hk _ _=>ah (by omega)),
   by rw [cG];omega,fun k hk=>by rw [ah (by omega),(le3.trans le4).2 k (by omega)];exact hold k hk,hsb.1,hsb.2,hq⟩
  clear ih hq;simp [f2,f4,f5,f6,f11,f12,f13,q,hlt,g1,g4,hcw,<-hH3,gb3,c3,e4,gb4,hcx,m1];refine hfin _ ?_ ?_ ?_ ?_ ?_ ?_ ?_
  all_goals simp [f2,f4,f6,f11,f12,hw]
 ·have q:=eq_false (show¬(i:Int)<(ms.length:Int) by omega);rw [List.drop_of_length_le (by omega)]at hq;have hq:T=(m,set):=hq;subst hq;have hlen2:=fun H':LH=>how.row.len (P:=Tryz.prog) (t:=171) (H':=H') Tryz.underlying171;have hle2:H.le H2:=⟨by omega,hold⟩
  clear ih;by_cases hm:ms= []
  ·subst hm;obtain rfl:i=0:=by simpa using hi
   simp at hlen2 f12 f13;simp [f2,f4,f5,f6,f11,f12,f13,hlen2,ga,qK];exact hle2
  ·have qm:=eq_false (show¬(ms.length:Int)=0 by intro e;exact hm (List.eq_nil_of_length_eq_zero (by omega)));rw [if_neg hm];simp [f2,f4,f5,f6,f11,f12,f13,q,hlt,hlen2,ga,gb,hm,qm,hcp,d1,d2]
   refine⟨hle2,vp,rfl,hrp.keep ⟨Nat.le_refl _,fun k b hk hb hor=>by
    by_cases hkc:k=H.n
    ·subst hkc;rw [ga]at hb;injection hb with hb;subst hb;rcases hor with h4|h4|h4
     ·omega
     ·exact absurd h4 (by show 70≠229;decide)
     ·exact h4.elim
    ·rw [ah hkc];exact hb⟩⟩
theorem uX (h:gn M H v xs) (hn:xs.length<=10000) (hl:(Tg.Hd.joinC xs).length<=5000) (hN:N<=H.n):fv Tryz.prog EJ 83 [v] H (qK 4 N (Tg.Mi.extractP xs)):=by
 refine cI ?_ (fun v H' hf h=>h.flat hf);refine aD (P:=Tryz.prog) (E:=EJ) (f:=83) rfl Tryz.func83 rfl (Nat.le_of_ble_eq_true rfl) (by decide) (by kernel_rfl) ?_;obtain⟨H0,hH0⟩: ∃H0,H0=H.new ⟨[str [],str [],.slice none 0 0],70,true⟩:=⟨_,rfl⟩
 have le0:H.le H0:=by rw [hH0];exact le_refl.new
 have n0:H0.n=H.n+1:=by rw [hH0];rfl
 have a0:H0.get H.n=some ⟨[str [],str [],.slice none 0 0],70,true⟩:=by rw [hH0,ak]
 have h0:gn M H0 v xs:=bA.keep h le0.1 (fun k _ _ hk=>le0.2 k hk);obtain⟨v1,H1,e1,le1,r1⟩:=uW (N:=N) h0 hn hl (by omega);have a1:=(le1.2 H.n (by omega)).trans a0;have hle:=le0.trans le1;cases hx:Tg.Mi.extractP xs with
 |none=>
  rw [hx]at r1;have r1:v1=.tuple #[mv [] [] (.slice none 0 0),.int .i64 4]:=r1;subst r1;simp [<-hH0,e1,a1,qK];exact hle
 |some m=>
  rw [hx]at r1;obtain⟨vp,rfl,r1⟩:=r1;have hcp:=r1.cell;simp [<-hH0,e1,a1,hcp,qK]
  refine⟨hle,r1.keep ⟨Nat.le_refl _,fun k b hk hb hor=>by
    by_cases hkc:k=H.n
    ·subst hkc;rw [a1]at hb;injection hb with hb;subst hb;rcases hor with h4|h4|h4
     ·omega
     ·exact absurd h4 (by show 70≠229;decide)
     ·exact h4.elim
    ·rw [ah hkc];exact hb⟩⟩
end
end Go.Proofs.YtbeoilidocfofaaGreatDoor.Mi
namespace Tg.Mi
end Tg.Mi
namespace Go.Proofs.YtbeoilidocfofaaGreatDoor.Mi
open Go.Lg Go.Tg
section
variable {H H':LH} {N M:Nat} {s t u name set:List UInt8} {v w:Value} {ps:List Tg.Mi.Par} {xs:List (List UInt8)} {m:Tg.Mi.Mim}
end
end Go.Proofs.YtbeoilidocfofaaGreatDoor.Mi
namespace Tg.Mi
def ctype:List UInt8:= [67,111,110,116,101,110,116,45,84,121,112,101]
def xopt:List UInt8:= [88,45,67,111,110,116,101,110,116,45,84,121,112,101,45,79,112,116,105,111,110,115]
def word:List UInt8:= [110,111,115,110,105,102,102]
def SmH (l:List Tg.Hd.Hdr):Prop:=l.length<=8/\ ∀h∈l,h.1.length<=30/\h.2.length<=100
def typeP (l:List Tg.Hd.Hdr):Option Mim:=extractP (Tg.Hd.getP ctype l)
def rawP (l:List Tg.Hd.Hdr):List UInt8:=(Tg.Hd.getP ctype l).getLast?.getD []
def noP (l:List Tg.Hd.Hdr):Bool:=match valuesP (Tg.Hd.getP xopt l)with
 | []=>false
 |a::_=>decide (Tg.Lo.lower a=Tg.Lo.lower word)
def noM:Mim:=⟨[],[],[]⟩
theorem getP_mem {name:List UInt8} {l:List Tg.Hd.Hdr} {x:List UInt8} (h:x∈Tg.Hd.getP name l): ∃a∈l,a.2=x:=by
 unfold Tg.Hd.getP at h;obtain⟨a,ha,e⟩:=List.mem_map.1 h;exact⟨a,(List.mem_filter.1 ha).1,e⟩
theorem joinS {name:List UInt8} {l:List Tg.Hd.Hdr} (h:SmH l):(Tg.Hd.joinC (Tg.Hd.getP name l)).length<=1000:=by
 have h1:=Tg.Hd.joinC_len (m:=100) (xs:=Tg.Hd.getP name l) (fun x hx=>by
  obtain⟨a,ha,rfl⟩:=getP_mem hx;exact(h.2 a ha).2) (Tg.Hd.getP name l).length (Nat.le_refl _)
 rw [List.take_of_length_le (Nat.le_refl _)]at h1;have h2:=Tg.Hd.getP_len name l;have h3:=h.1;have h4:=Nat.mul_le_mul_right (100+2) (show(Tg.Hd.getP name l).length<=8 by omega);omega
end Tg.Mi
namespace Go.Proofs.YtbeoilidocfofaaGreatDoor
open Go.Lg Go.Tg
theorem bT.ro {H:LH} {v:Value} {l:List Tg.Hd.Hdr} (h:bT H v l):bT H.ro v l:=by
 rcases h with h|⟨k,o,c,h1,h2⟩
 ·exact .inl h
 ·refine .inr ⟨k,o,c,h1,fun hne=>?_⟩;obtain⟨b,h2,h3,h4⟩:=h2 hne;exact⟨{ b with rw:=false },by rw [uf,h2];rfl,by rw [NB];exact h3,h4⟩
end Go.Proofs.YtbeoilidocfofaaGreatDoor
namespace Go.Proofs.YtbeoilidocfofaaGreatDoor.Mi
open Go.Lg Go.Tg
abbrev svp (m:Tg.Mi.Mim) (v:Value) (has no bug:Bool):Value:=.agg #[str m.t,str m.s,v,.bool has,.bool no,.bool bug]
section
variable {H H':LH} {N M:Nat} {v w:Value} {l:List Tg.Hd.Hdr} {m:Tg.Mi.Mim} {xs:List (List UInt8)}
theorem sX (hr:bT H v l) (hs:Tg.Mi.SmH l) (hN:N<=H.n):fv Tryz.prog EJ 52 [v] H fun H' r=> ∃w,r=.tuple #[mv ((Tg.Mi.typeP l).getD Tg.Mi.noM).t ((Tg.Mi.typeP l).getD Tg.Mi.noM).s w,.bool (Tg.Mi.typeP l).isSome]/\bB ln 229 N H' w ((Tg.Mi.typeP l).getD Tg.Mi.noM).ps:=by
 refine cI ?_ (fun v H' hf h=>by
  obtain⟨w,rfl,h⟩:=h;exact⟨w,rfl,h.flat (gQ hf h.cell)⟩)
 refine aD (P:=Tryz.prog) (E:=EJ) (f:=52) rfl Tryz.func52 rfl (Nat.le_of_ble_eq_true rfl) (by decide) (by kernel_rfl) ?_;obtain⟨H0,hH0⟩: ∃H0,H0=H.new ⟨[str [],str [],.slice none 0 0],70,true⟩:=⟨_,rfl⟩
 have le0:H.le H0:=by rw [hH0];exact le_refl.new
 have n0:H0.n=H.n+1:=by rw [hH0];rfl
 have a0:H0.get H.n=some ⟨[str [],str [],.slice none 0 0],70,true⟩:=by rw [hH0,ak]
 obtain⟨v1,H1,e1,o1⟩:=uI (name:=Tg.Mi.ctype) (hr.keep le0.1 le0.2) (by have:=hs.1;omega) (fun h hh=>by have:=(hs.2 h hh).1;omega);have le1:H0.le H1:=⟨o1.le,o1.old⟩
 have hjl:=Tg.Mi.joinS (name:=Tg.Mi.ctype) hs;have hgl:=Tg.Hd.getP_len Tg.Mi.ctype l;obtain⟨v2,H2,e2,le2,r2⟩:=uX (N:=N) o1.row (by have:=hs.1;omega) (by omega) (by have:=le1.1;omega);rw [show Tg.Mi.ctype= [67,111,110,116,101,110,116,45,84,121,112,101] from rfl]at e1;have a2:=((le1.trans le2).2 H.n (by omega)).trans a0;have hle:=le0.trans (le1.trans le2);have n2:=hle.1;have hlt2:H.n<H2.n:=by have:=(le1.trans le2).1;omega
 have m1:(H.n=H2.n)=False:=eq_false (by omega);change qK 4 N (Tg.Mi.typeP l) H2 v2 at r2;cases hx:Tg.Mi.typeP l with
 |none=>
  rw [hx]at r2;have r2:v2=.tuple #[mv [] [] (.slice none 0 0),.int .i64 4]:=r2;subst r2;simp [<-hH0,e1,e2,a2,m1,Tg.Mi.noM];exact⟨hle.new,bB.nil⟩
 |some m=>
  rw [hx]at r2;obtain⟨vp,rfl,r2⟩:=r2;have hcp:=r2.cell;simp [<-hH0,e1,e2,a2,m1,hcp,Tg.Mi.noM]
  refine⟨hle.new,(r2.le (H':=H2.new ⟨[str m.t,str m.s,vp],70,true⟩) le_refl.new).keep ⟨Nat.le_refl _,fun k b hk hb hor=>by
    by_cases hkc:k=H.n
    ·subst hkc;rw [aa (by omega),a2]at hb;injection hb with hb;subst hb;rcases hor with h4|h4|h4
     ·omega
     ·exact absurd h4 (by show 70≠229;decide)
     ·exact h4.elim
    ·rw [ah hkc];exact hb⟩⟩
theorem K5 (hr:bT H v l) (hs:Tg.Mi.SmH l): ∃b,LC Tryz.prog EJ 53 [v] H=some (.tuple #[str (Tg.Mi.rawP l),.bool b],H):=by
 obtain⟨v1,H1,e1,o1⟩:=uI (name:=Tg.Mi.ctype) hr (by have:=hs.1;omega) (fun h hh=>by have:=(hs.2 h hh).1;omega);have hgl:=Tg.Hd.getP_len Tg.Mi.ctype l;have hl8:=hs.1;rw [show Tg.Mi.ctype= [67,111,110,116,101,110,116,45,84,121,112,101] from rfl]at e1;refine⟨decide (Tg.Hd.getP Tg.Mi.ctype l≠ []),?_⟩;refine ag rfl Tryz.func53 rfl (Nat.le_of_ble_eq_true rfl) (by decide) (by kernel_rfl) rfl ?_;unfold Tg.Mi.rawP;have ho:=o1.row;have hle:=o1.le;have hold:=o1.old;generalize Tg.Hd.getP Tg.Mi.ctype l=xs at*;have hlen:=fun H':LH=>gn.len ho (H':=H');by_cases hx:xs= []
 ·subst hx;simp at hlen;simp [e1,hlen];exact⟨hle,hold⟩
 ·have hp:=List.length_pos_iff.2 hx;have q:=eq_false (show¬(xs.length:Int)=0 by omega);obtain⟨k,o,g1,g2,g3⟩:=gn.at ho (i:=xs.length-1) (by omega);have g4:=g3 H1 rfl;have hw:IntKind.i64.wrap ((xs.length:Int)-1)=((xs.length-1:Nat):Int):=by rw [wrapI (by omega) (by omega)];omega
  have hla:xs.getLast?.getD []=xs[xs.length-1]'(by omega):=by
   rw [List.getLast?_eq_getElem?,List.getElem?_eq_getElem (by omega)];rfl
  simp [e1,hlen,hx,q,hw,g1,g4,hla];exact⟨hle,hold⟩
theorem uY (hr:bT H v l) (hs:Tg.Mi.SmH l) (hN:N<=H.n):fv Tryz.prog EJ 85 [v] H fun H' r=>bB we 9 N H' r (Tg.Mi.valuesP (Tg.Hd.getP Tg.Mi.xopt l)):=by
 refine cI ?_ (fun v H' hf h=>h.flat hf);refine aD (P:=Tryz.prog) (E:=EJ) (f:=85) rfl Tryz.func85 rfl (Nat.le_of_ble_eq_true rfl) (by decide) (by kernel_rfl) ?_;have hjl:=Tg.Mi.joinS (name:=Tg.Mi.xopt) hs;have e1:=FA (name:=Tg.Mi.xopt) hr (by have:=hs.1;omega) (fun h hh=>by have:=(hs.2 h hh).1;omega) (by omega);rw [show Tg.Mi.xopt= [88,45,67,111,110,116,101,110,116,45,84,121,112,101,45,79,112,116,105,111,110,115] from rfl]at e1 hjl⊢;unfold Tg.Mi.valuesP;generalize Tg.Hd.getP _ l=xs at*;obtain⟨v2,H2,e2,le2,r2⟩:=sW (s:=Tg.Hd.joinC xs) hN (by omega);by_cases hx:xs= []
 ·subst hx;simp [e1];exact bB.nil
 ·rw [if_neg hx];simp [e1,hx,e2];exact⟨le2,r2⟩
theorem Pc (hr:bT H v l) (hs:Tg.Mi.SmH l):LC Tryz.prog EJ 54 [v] H=some (.bool (Tg.Mi.noP l),H):=by
 refine ag rfl Tryz.func54 rfl (Nat.le_of_ble_eq_true rfl) (by decide) (by kernel_rfl) rfl ?_;obtain⟨v1,H1,e1,le1,r1⟩:=uY (N:=H.n) hr hs (Nat.le_refl _);have hb:=(Tg.Mi.valuesP_bd (B:=1000) (xs:=Tg.Hd.getP Tg.Mi.xopt l) (Tg.Mi.joinS hs)).2;unfold Tg.Mi.noP;generalize Tg.Mi.valuesP (Tg.Hd.getP Tg.Mi.xopt l)=ys at*;have hlen:=fun H':LH=>r1.len (P:=Tryz.prog) (t:=116) (H':=H') Tryz.underlying116;cases ys with
 |nil=>
  simp at hlen;simp [e1,hlen];exact le1
 |cons a r=>
  have hal:=hb a (by simp);obtain⟨k,o,g1,g2,g3⟩:=CE r1 (i:=0) (by simp);have g4:=g3 H1 rfl;have e3:=fun H:LH=>nw (H:=H) (s:=a) (t:= [110,111,115,110,105,102,102]) (by omega);have q:=eq_true (show(0:Int)<(r.length:Int)+1 by omega);simp at hlen g4 g1;rw [show Tg.Mi.word= [110,111,115,110,105,102,102] from rfl];simp [e1,hlen,q,g1,g4,e3];exact le1
end
section
variable {H H':LH} {N M:Nat} {v w:Value} {l:List Tg.Hd.Hdr} {m:Tg.Mi.Mim} {xs:List (List UInt8)}
theorem uZ {a b:List UInt8} {h n g:Bool} (hc:aC v=true):bG Tryz.prog 72 [str [],str [],.slice none 0 0,.bool false,.bool false,.bool false] [(0,mv a b v),(1,.bool h),(2,.bool n),(3,.bool g)]=some [str a,str b,v,.bool h,.bool n,.bool g]:=by
 rw [h_ (o:=0) (n:=3) (g:=true) (by simp) rfl (by simp)];show bG _ _ [str a,str b,v,.bool false,.bool false,.bool false] _=_;rw [aB (o:=3) (n:=1) (g:=false) (by simp) rfl (by simp) (by simp),aB (o:=4) (n:=1) (g:=false) (by simp) rfl (by simp) (by simp),aB (o:=5) (n:=1) (g:=false) (by simp) rfl (by simp) (by simp)];simp
def SaidR (N:Nat) (l:List Tg.Hd.Hdr) (H:LH) (r:Value):Prop:= ∃w,r=svp ((Tg.Mi.typeP l).getD Tg.Mi.noM) w (Tg.Mi.typeP l).isSome (Tg.Mi.noP l) (Tg.Sn.bug (Tg.Mi.rawP l))/\bB ln 229 N H w ((Tg.Mi.typeP l).getD Tg.Mi.noM).ps
theorem SaidR.flat (h:SaidR N l H' v) (hf:ao v=true):SaidR N l H v:=by
 obtain⟨w,rfl,h⟩:=h;refine⟨w,rfl,h.flat ?_⟩;have hc:=h.cell;simp only [ao,az,List.all_cons,Bool.and_eq_true]at hf;have h1:=hf.2.2.1;cases w<;>first|exact h1|(simp [aC]at hc)
theorem said_ex (hr:bT H v l) (hs:Tg.Mi.SmH l) (hN:N<=H.n):fv Tryz.prog EJ 32 [v] H (SaidR N l):=by
 refine cI ?_ (fun v H' hf h=>h.flat hf);refine aD (P:=Tryz.prog) (E:=EJ) (f:=32) rfl Tryz.func32 rfl (Nat.le_of_ble_eq_true rfl) (by decide) (by kernel_rfl) ?_;obtain⟨H0,hH0⟩: ∃H0,H0=H.new ⟨[str [],str [],.slice none 0 0,.bool false,.bool false,.bool false],72,true⟩:=⟨_,rfl⟩
 have le0:H.le H0:=by rw [hH0];exact le_refl.new
 have n0:H0.n=H.n+1:=by rw [hH0];rfl
 have a0:H0.get H.n=some ⟨[str [],str [],.slice none 0 0,.bool false,.bool false,.bool false],72,true⟩:=by rw [hH0,ak]
 obtain⟨r1,H1,e1,le1,w1,rfl,rw1⟩:=sX (N:=N) (hr.keep le0.1 le0.2) hs (by omega);have hc1:=rw1.cell;have n1:=le1.1;have a1:=(le1.2 H.n (by omega)).trans a0;unfold SaidR;generalize ((Tg.Mi.typeP l).getD Tg.Mi.noM)=m at*;generalize (Tg.Mi.typeP l).isSome=has at*;obtain⟨H2,hH2⟩: ∃H2,H2=H1.new ⟨[str m.t,str m.s,w1],70,true⟩:=⟨_,rfl⟩
 have le2:H1.le H2:=by rw [hH2];exact le_refl.new
 have g2:H2.get H1.n=some ⟨[str m.t,str m.s,w1],70,true⟩:=by rw [hH2,ak]
 have a2:=(le2.2 H.n (by omega)).trans a1;have hle:=le0.trans (le1.trans le2);have hr2:=hr.keep hle.1 hle.2;obtain⟨rb,e2⟩:=K5 hr2 hs;have e3:=Pc hr2.ro hs;have e4:=fun H:LH=>KC (H:=H) (s:=Tg.Mi.rawP l);have m1:(H.n=H1.n)=False:=eq_false (by omega);simp [<-hH0,e1,<-hH2,hc1,e2,e3,e4,g2,a2,uZ,m1];exact⟨hle,(rw1.le le2).keep1 (Nat.le_refl _) a2 (by show 72≠229;decide) (fun h=>h) hN (fun k _ hne=>ah hne)⟩
end
end Go.Proofs.YtbeoilidocfofaaGreatDoor.Mi
namespace Tg.Mi
end Tg.Mi
namespace Go.Proofs.YtbeoilidocfofaaGreatDoor.Mi
open Go.Lg Go.Tg
section
variable {H H':LH} {N M:Nat} {s t u name set:List UInt8} {v w:Value} {ps:List Tg.Mi.Par} {xs:List (List UInt8)} {m:Tg.Mi.Mim} {l:List Tg.Hd.Hdr}
end
end Go.Proofs.YtbeoilidocfofaaGreatDoor.Mi
namespace Tg.Ob
def wMedia:List UInt8:= [109,101,100,105,97]
def wNoMedia:List UInt8:= [110,111,32,109,101,100,105,97]
def wNoPart:List UInt8:= [110,111,32,112,97,114,116]
def wImage:List UInt8:= [105,109,97,103,101]
def wNosniff:List UInt8:= [110,111,115,110,105,102,102]
def wStatus:List UInt8:= [115,116,97,116,117,115]
def wUntyped:List UInt8:= [117,110,116,121,112,101,100]
def wMislab:List UInt8:= [109,105,115,108,97,98,101,108,108,101,100]
def labP (m:Tg.Mi.Mim):Bool:=decide (m.t=wImage)||Tg.Sn.isMedia m.t m.s
def judgeP (me st:Int) (l:List Tg.Hd.Hdr) (s:List UInt8):Int×List UInt8:=
 if(Tg.Sn.kind s).2=true then(1,wMedia)
 else if me≠0 then(2,wNoMedia)
 else if st=206 then(2,wNoPart)
 else if(Tg.Sn.kind s).1≠ []then(1,wImage)
 else if Tg.Mi.noP l=true then(2,wNosniff)
 else if¬(200<=st/\st<=299)then(2,wStatus)
 else if(Tg.Mi.typeP l).isSome=false then(1,wUntyped)
 else if labP ((Tg.Mi.typeP l).getD Tg.Mi.noM)=true then(2,wMislab)
 else(0,[])
end Tg.Ob
namespace Go.Proofs.YtbeoilidocfofaaGreatDoor.Sn
open Go.Lg Go.Tg
section
variable {H H':LH} {N:Nat} {s t u:List UInt8} {v w:Value} {l:List Tg.Hd.Hdr} {a1 a2:Bool} {me st:Int}
theorem bQ (h:cJ H) (b:Bs H H'):cJ H':=⟨by rw [b.2];exact h.1,by rw [b.1];exact h.2⟩
theorem jV (hr:bT H v l) (hs:Tg.Mi.SmH l): ∃r H',LC Tryz.prog EJ 32 [v] H=some (r,H')/\H.le H'/\Mi.SaidR H.n l H' r/\Bs H H':=by
 obtain⟨r,H',e,h1,h2⟩:=Mi.said_ex (N:=H.n) hr hs (Nat.le_refl _);exact⟨r,H',up rfl e,h1,h2,BB e⟩
theorem F' {m:Tg.Mi.Mim} {h n g:Bool} (hv: ∃pa pl pc,v=.slice pa pl pc) (ht:cJ H):LC Tryz.prog EJ 73 [Mi.svp m v h n g] H=some (.bool (Tg.Ob.labP m),H):=by
 obtain⟨pa,pl,pc,rfl⟩:=hv;refine ag rfl Tryz.func73 rfl (Nat.le_of_ble_eq_true rfl) (by decide) (by kernel_rfl) rfl ?_;have h1:=fun H:LH=>Cv (H:=H) (s:=m.t) (t:=m.s) (pa:=pa) (pl:=pl) (pc:=pc);have h2:=Cu (H:=H.new ⟨[str m.t,str m.s,.slice pa pl pc,.bool h,.bool n,.bool g],72,true⟩) (s:=m.t) (t:=m.s) (pa:=pa) (pl:=pl) (pc:=pc) (bQ ht ⟨by simp,by simp⟩);unfold Tg.Ob.labP Tg.Ob.wImage;by_cases q:m.t= [105,109,97,103,101]
 ·have q:=eq_true q;simp [h1,q,le_refl.new]
 ·have q:=eq_false q;simp [h1,q,h2,le_refl.new]
theorem CF (hc:aC v=true):LC Tryz.prog EJ 33 [.agg #[.int .i64 st,v]] H=some (.bool (decide (st=206)),H):=by
 have h1: ∀H:LH,LC Tryz.prog EJ 41 [.agg #[.int .i64 st,v]] H=some (.bool (decide (st=206)),H):=fun H=>by
  have h0: ∀H:LH,LC Tryz.prog EJ 63 [.int .i64 st] H=some (.bool (decide (st=206)),H):=fun H=>by
   refine ag rfl Tryz.func63 rfl (Nat.le_of_ble_eq_true rfl) (by decide) (by kernel_rfl) rfl ?_;simp
  refine ag rfl Tryz.func41 rfl (Nat.le_of_ble_eq_true rfl) (by decide) (by kernel_rfl) rfl ?_;simp [hc,h0,le_refl.new]
 refine ag rfl Tryz.func33 rfl (Nat.le_of_ble_eq_true rfl) (by decide) (by kernel_rfl) rfl ?_;simp [hc,h1,le_refl.new]
theorem K6:LC Tryz.prog EJ 72 [.int .i64 st] H=some (.bool (decide (200<=st/\st<=299)),H):=by
 have h1: ∀H:LH,∃x,LC Tryz.prog EJ 105 [.int .i64 st] H=some (.int .i64 x,H)/\decide (x=2)=decide (200<=st/\st<=299):=fun H=>by
  by_cases a:st<100
  ·refine⟨0,?_,?_⟩
   ·refine ag rfl Tryz.func105 rfl (Nat.le_of_ble_eq_true rfl) (by decide) (by kernel_rfl) rfl ?_;have a:=eq_true a;simp [a]
   ·rw [decide_eq_false (show¬(200<=st/\st<=299) by omega)];rfl
  ·by_cases b:999<st
   ·refine⟨0,?_,?_⟩
    ·refine ag rfl Tryz.func105 rfl (Nat.le_of_ble_eq_true rfl) (by decide) (by kernel_rfl) rfl ?_;have a:=eq_false a;have b:=eq_true b;simp [a,b]
    ·rw [decide_eq_false (show¬(200<=st/\st<=299) by omega)];rfl
   ·refine⟨st.tdiv 100,?_,?_⟩
    ·refine ag rfl Tryz.func105 rfl (Nat.le_of_ble_eq_true rfl) (by decide) (by kernel_rfl) rfl ?_;have a:=eq_false a;have b:=eq_false b;have hd:st.tdiv 100=st/100:=Int.tdiv_eq_ediv_of_nonneg (by omega);have hw:IntKind.i64.wrap (st.tdiv 100)=st.tdiv 100:=Mi.wrapI (by rw [hd];omega) (by rw [hd];omega);simp [a,b,hw]
    ·have hd:st.tdiv 100=st/100:=Int.tdiv_eq_ediv_of_nonneg (by omega);rw [decide_eq_decide,hd];omega
 obtain⟨x,e,hx⟩:=h1 H;refine ag rfl Tryz.func72 rfl (Nat.le_of_ble_eq_true rfl) (by decide) (by kernel_rfl) rfl ?_;rw [<-hx];simp [e]
theorem Ga (hr:bT H v l) (hs:Tg.Mi.SmH l) (ht:cJ H) (hc:aC v=true):LC Tryz.prog EJ 47 [.agg #[str u,.bool a1,.bool a2,.int .i64 me],.agg #[.int .i64 st,v],str s] H=some (.tuple #[.int .i64 (Tg.Ob.judgeP me st l s).1,str (Tg.Ob.judgeP me st l s).2],H):=by
 refine ag rfl Tryz.func47 rfl (Nat.le_of_ble_eq_true rfl) (by decide) (by kernel_rfl) rfl ?_;obtain⟨H1,hH1⟩: ∃H1,H1=(H.new ⟨[str u,.bool a1,.bool a2,.int .i64 me],25,true⟩).new ⟨[.int .i64 st,v],28,true⟩:=⟨_,rfl⟩
 have le1:H.le H1:=by rw [hH1];exact le_refl.new.new
 have n1:H1.n=H.n+1+1:=by rw [hH1];rfl
 have g1:H1.get H.n=some ⟨[str u,.bool a1,.bool a2,.int .i64 me],25,true⟩:=by rw [hH1,aa (by simp),ak]
 have k1:H1.get (H.n+1)=some ⟨[.int .i64 st,v],28,true⟩:=by rw [hH1];exact ak
 obtain⟨r2,H2,e2,le2,⟨w,rfl,hw⟩,bs2⟩:=jV (hr.keep le1.1 le1.2) hs;have hcw:=hw.cell;have hsw:=hw.slice;obtain⟨H3,hH3⟩: ∃H3,H3=H2.new ⟨[str ((Tg.Mi.typeP l).getD Tg.Mi.noM).t,str ((Tg.Mi.typeP l).getD Tg.Mi.noM).s,w,.bool (Tg.Mi.typeP l).isSome,.bool (Tg.Mi.noP l),.bool (Tg.Sn.bug (Tg.Mi.rawP l))],72,true⟩:=⟨_,rfl⟩
 have le3:H2.le H3:=by rw [hH3];exact le_refl.new
 have g3:=(le3.2 H.n (by have:=le2.1;omega)).trans ((le2.2 H.n (by omega)).trans g1);have k3:=(le3.2 (H.n+1) (by have:=le2.1;omega)).trans ((le2.2 (H.n+1) (by omega)).trans k1);have s3:H3.get H2.n=some ⟨[str ((Tg.Mi.typeP l).getD Tg.Mi.noM).t,str ((Tg.Mi.typeP l).getD Tg.Mi.noM).s,w,.bool (Tg.Mi.typeP l).isSome,.bool (Tg.Mi.noP l),.bool (Tg.Sn.bug (Tg.Mi.rawP l))],72,true⟩:=by rw [hH3];exact ak
 have hle:=(le1.trans le2).trans le3;have ht3:cJ H3:=(bQ ht ((show Bs H H1 from by rw [hH1];exact⟨by simp,by simp⟩).trans (bs2.trans (show Bs H2 H3 from by rw [hH3];exact⟨by simp,by simp⟩))))
 have e4:=fun H:LH=>F1 (H:=H) (s:=s);have e5:=fun H:LH=>CF (H:=H) (st:=st) hc;have e6:=fun H:LH=>K6 (H:=H) (st:=st);have e7:=F' (m:=(Tg.Mi.typeP l).getD Tg.Mi.noM) (h:=(Tg.Mi.typeP l).isSome) (n:=Tg.Mi.noP l) (g:=Tg.Sn.bug (Tg.Mi.rawP l)) hsw ht3;unfold Tg.Ob.judgeP;generalize ((Tg.Mi.typeP l).getD Tg.Mi.noM)=m at*;generalize (Tg.Mi.typeP l).isSome=has at*;generalize Tg.Mi.noP l=no at*;generalize Tg.Sn.bug (Tg.Mi.rawP l)=bg at*;generalize (Tg.Sn.kind s).1=ki at*;generalize (Tg.Sn.kind s).2=km at*;cases km with
 |true=>
  simp [<-hH1,k1,hc,e2,<-hH3,hcw,e4,Tg.Ob.wMedia];exact hle
 |false=>
  by_cases h1:me=0
  ·have h1:=eq_true h1;by_cases h2:st=206
   ·have h2:=eq_true h2;simp only [h2,decide_true]at e5;simp [<-hH1,k1,hc,e2,<-hH3,hcw,e4,g3,k3,h1,e5,h2,Tg.Ob.wNoPart];exact hle
   ·have h2:=eq_false h2;simp only [h2,decide_false]at e5;by_cases h3:ki= []
    ·subst h3;cases no with
     |true=>
      simp [<-hH1,k1,hc,e2,<-hH3,hcw,e4,g3,k3,h1,e5,h2,s3,Tg.Ob.wNosniff];exact hle
     |false=>
      by_cases h4:200<=st/\st<=299
      ·have h4':=eq_true h4;simp only [h4',decide_true]at e6;have h41:=eq_true h4.1;have h42:=eq_true h4.2;cases has with
       |false=>
        simp [<-hH1,k1,hc,e2,<-hH3,hcw,e4,g3,k3,h1,e5,h2,s3,e6,h41,h42,Tg.Ob.wUntyped];exact hle
       |true=>
        cases hlab:Tg.Ob.labP m with
        |true=>
         rw [hlab]at e7;simp [<-hH1,k1,hc,e2,<-hH3,hcw,e4,g3,k3,h1,e5,h2,s3,e6,h41,h42,e7,Tg.Ob.wMislab];exact hle
        |false=>
         rw [hlab]at e7;simp [<-hH1,k1,hc,e2,<-hH3,hcw,e4,g3,k3,h1,e5,h2,s3,e6,h41,h42,e7];exact hle
      ·have h4':=eq_false h4;simp only [h4',decide_false]at e6;simp only [h4',not_false_eq_true,if_true];simp [<-hH1,k1,hc,e2,<-hH3,hcw,e4,g3,k3,h1,e5,h2,s3,e6,Tg.Ob.wStatus];exact hle
    ·have h3:=eq_false h3;simp [<-hH1,k1,hc,e2,<-hH3,hcw,e4,g3,k3,h1,e5,h2,h3,Tg.Ob.wImage];exact hle
  ·have h1:=eq_false h1;simp [<-hH1,k1,hc,e2,<-hH3,hcw,e4,g3,h1,Tg.Ob.wNoMedia];exact hle
end
end Go.Proofs.YtbeoilidocfofaaGreatDoor.Sn
namespace Tg.Mi
theorem sY {B:Nat} (hB:charset.length<=B): ∀(l:List Mim) (x:Mim×List UInt8),(∀m∈l,BdM B m)->BdM (B+1) x.1->x.2.length<=B->BdM (B+1) (foldM l x).1
 | [],x,_,h,_=>h
 |n::l,x,hl,h,h2=>by
  unfold foldM;have hs:=stepP_bd (t:=x.1.t) (s:=x.1.s) (set:=x.2) (n:=n) (hl n (by simp)) h2 hB;exact sY hB l _ (fun m hm=>hl m (by simp [hm])) hs.1 hs.2
theorem typeP_bd {l:List Tg.Hd.Hdr} (h:SmH l) (ht: ∀s:List UInt8,(Tg.Hd.trim s).length<=s.length):BdM 1001 ((typeP l).getD noM):=by
 unfold typeP extractP;split
 ·exact⟨by decide,by decide,by decide,by simp [noM]⟩
 ·exact sY (B:=1000) (by decide) _ _ (allP_bd (valuesP_bd (joinS h)).2 ht) ⟨by decide,by decide,by decide,by simp⟩ (by simp)
end Tg.Mi
namespace Tg.Hd
theorem few_few (l:List Hdr) (n:Nat):few (few l n) n=few l n:=by
 unfold few;rw [<-List.map_take,List.take_take,Nat.min_self,List.map_map];apply List.map_congr_left;intro h _;simp [List.take_take]
theorem few_sm (l:List Hdr):Tg.Mi.SmH (few l 8):=by
 unfold few;refine⟨by rw [List.length_map,List.length_take];omega,fun h hh=>?_⟩;obtain⟨a,_,rfl⟩:=List.mem_map.1 hh;exact⟨by simp only [List.length_take];omega,by simp only [List.length_take];omega⟩
end Tg.Hd
namespace Tg.Ob
structure Jud where
 v:Int
 r:List UInt8
 n:Int
 m:Bool
deriving DecidableEq
def noJ:Jud:=⟨0,[],0,false⟩
def at31 (n:Int):Int:=if n<0 then 0 else if 1445<n then 1445 else n
def ofP (me st:Int) (l:List Tg.Hd.Hdr) (s:List UInt8):Jud:=
 if(judgeP me st l s).1=0 then noJ else⟨(judgeP me st l s).1,(judgeP me st l s).2,at31 s.length,decide ((judgeP me st l s).2=wMedia)⟩
end Tg.Ob
namespace Go.Proofs.YtbeoilidocfofaaGreatDoor.Sn
open Go.Lg Go.Tg
abbrev K7 (j:Tg.Ob.Jud):Value:=.agg #[.int .i64 j.v,str j.r,.int .i64 j.n,.bool j.m]
abbrev sZ (u:List UInt8) (a1 a2:Bool) (me:Int):Value:=.agg #[str u,.bool a1,.bool a2,.int .i64 me]
abbrev iV (st:Int) (v:Value):Value:=.agg #[.int .i64 st,v]
section
variable {H H':LH} {N:Nat} {s t u:List UInt8} {v w:Value} {l:List Tg.Hd.Hdr} {a1 a2:Bool} {me st:Int}
theorem Pe {n:Int} :LC Tryz.prog EJ 31 [.int .i64 n] H=some (.int .i64 (Tg.Ob.at31 n),H):=Ry
theorem RB (hr:bT H v l) (hs:Tg.Mi.SmH l) (ht:cJ H) (hc:aC v=true):LC Tryz.prog EJ 27 [sZ u a1 a2 me,iV st v,str s] H=some (K7 (Tg.Ob.ofP me st l s),H):=by
 refine ag rfl Tryz.func27 rfl (Nat.le_of_ble_eq_true rfl) (by decide) (by kernel_rfl) rfl ?_;obtain⟨H1,hH1⟩: ∃H1,H1=((H.new ⟨[str u,.bool a1,.bool a2,.int .i64 me],25,true⟩).new ⟨[.int .i64 st,v],28,true⟩).new ⟨[.int .i64 0,str [],.int .i64 0,.bool false],38,true⟩:=⟨_,rfl⟩
 have le1:H.le H1:=by rw [hH1];exact le_refl.new.new.new
 have n1:H1.n=H.n+1+1+1:=by rw [hH1];rfl
 have g1:H1.get H.n=some ⟨[str u,.bool a1,.bool a2,.int .i64 me],25,true⟩:=by rw [hH1,aa (by simp;omega),aa (by simp),ak]
 have k1:H1.get (H.n+1)=some ⟨[.int .i64 st,v],28,true⟩:=by rw [hH1,aa (by simp)];exact ak
 have j1:H1.get (H.n+1+1)=some ⟨[.int .i64 0,str [],.int .i64 0,.bool false],38,true⟩:=by rw [hH1];exact ak
 have ht1:cJ H1:=bQ ht (by rw [hH1];exact⟨by simp,by simp⟩);have e1:=Ga (u:=u) (a1:=a1) (a2:=a2) (me:=me) (st:=st) (s:=s) (hr.keep le1.1 le1.2) hs ht1 hc;have e2:=fun H:LH=>Pe (H:=H) (n:=s.length);unfold Tg.Ob.ofP;generalize (Tg.Ob.judgeP me st l s).1=vd at*;generalize (Tg.Ob.judgeP me st l s).2=rs at*;have hm:Tg.Ob.wMedia= [109,101,100,105,97]:=rfl;by_cases h0:vd=0
 ·subst h0;simp [hc,<-hH1,g1,k1,j1,e1,Tg.Ob.noJ];exact le1.set (by omega)
 ·have h0f:=eq_false h0;rw [if_neg h0,hm];simp [hc,<-hH1,g1,k1,j1,e1,h0f,e2,Ct];exact le1.set (by omega)
end
section
variable {H H':LH} {N:Nat} {s t u:List UInt8} {v w:Value} {l:List Tg.Hd.Hdr} {a1 a2:Bool} {me st:Int}
theorem Pf:LC Tryz.prog EJ 13 [sZ u a1 a2 me] H=some (sZ (u.take 80) a1 a2 me,H):=by
 refine ag rfl Tryz.func13 rfl (Nat.le_of_ble_eq_true rfl) (by decide) (by kernel_rfl) rfl ?_;have h1:=fun H:LH=>Ia (H:=H) (s:=u) (k:=80) (by decide);simp only [show((80:Int).toNat)=80 from rfl]at h1;generalize u.take 80=u2 at*;have d1:(H.n=H.n+1)=False:=eq_false (by omega);have d2:(H.n+1=H.n)=False:=eq_false (by omega);simp [h1,d1,d2]
 try exact(le_refl.new.new.set (Nat.le_refl _)).set (by omega)
theorem CH (h:ao (iV st v)=true) (hc:aC v=true):ao v=true:=by
 simp only [ao,az,List.all_cons,Bool.and_eq_true]at h;have h1:=h.2.1;cases v<;>first|exact h1|(simp [aC]at hc)
theorem aV (h:bT H v l):aC v=true:=by
 rcases h with⟨rfl,_⟩|⟨k,o,c,rfl,_⟩<;>simp
theorem CI (hr:bT H v l) (hl:l.length<=9223372036854775807): ∃v' H',LC Tryz.prog EJ 14 [iV st v] H=some (iV st v',H')/\H.le H'/\gm H.n H' v' (Tg.Hd.few l 8)/\Bs H H':=by
 have hc:=aV hr;obtain⟨H1,hH1⟩: ∃H1,H1=(H.new ⟨[.int .i64 st,v],28,true⟩).new ⟨[.int .i64 0,.slice none 0 0],28,true⟩:=⟨_,rfl⟩
 have le1:H.le H1:=by rw [hH1];exact le_refl.new.new
 have n1:H1.n=H.n+1+1:=by rw [hH1];rfl
 have a1:H1.get H.n=some ⟨[.int .i64 st,v],28,true⟩:=by rw [hH1,aa (by simp),ak]
 have b1:H1.get (H.n+1)=some ⟨[.int .i64 0,.slice none 0 0],28,true⟩:=by rw [hH1];exact ak
 obtain⟨v2,H2,e2,o2⟩:=KM (hr.keep le1.1 le1.2) hl (c:=8) (by decide);have bs2:=BB e2;have e2:LC Tryz.prog EJ 19 [v,.int .i64 8] H1=some (v2,H2):=up rfl e2;have le2:H1.le H2:=⟨o2.le,o2.old⟩
 have a2:=(le2.2 H.n (by omega)).trans a1;have b2:=(le2.2 (H.n+1) (by omega)).trans b1;have n2:=le2.1;have hr2:=o2.row.row;have hc2:=aV hr2;have d1:(H.n=H.n+1)=False:=eq_false (by omega);have d2:(H.n+1=H.n)=False:=eq_false (by omega);have hle:=le1.trans le2
 have key: ∃r,LC Tryz.prog EJ 14 [iV st v] H=some (Lg.trunc H r)/\r.1=iV st v2/\r.2=(H2.set H.n ⟨[.int .i64 st,v2],28,true⟩).set (H.n+1) ⟨[.int .i64 st,v2],28,true⟩:=by
  refine aD (P:=Tryz.prog) (E:=EJ) (f:=14) rfl Tryz.func14 rfl (Nat.le_of_ble_eq_true rfl) (by decide) (by kernel_rfl) ?_;simp [hc,<-hH1,a1,e2,a2,b2,hc2,d1,d2]
 obtain⟨⟨r,H3⟩,e3,h1,h2⟩:=key;simp only at h1 h2;subst h1 h2;have hle3:H.le ((H2.set H.n ⟨[.int .i64 st,v2],28,true⟩).set (H.n+1) ⟨[.int .i64 st,v2],28,true⟩):=(hle.set (Nat.le_refl _)).set (by omega)
 have hold:gm H.n ((H2.set H.n ⟨[.int .i64 st,v2],28,true⟩).set (H.n+1) ⟨[.int .i64 st,v2],28,true⟩) v2 (Tg.Hd.few l 8):=by
  have h0:=bA.keep (H':=(H2.set H.n ⟨[.int .i64 st,v2],28,true⟩).set (H.n+1) ⟨[.int .i64 st,v2],28,true⟩) o2.row (Nat.le_refl _) (fun k hk _ _=>by rw [ah (by omega),ah (by omega)]);exact gm.weak h0 (by omega)
 rcases cm (iV st v2) H ((H2.set H.n ⟨[.int .i64 st,v2],28,true⟩).set (H.n+1) ⟨[.int .i64 st,v2],28,true⟩)with e4|⟨e4,hf,_⟩
 ·exact⟨v2,_,by rw [e3,e4],hle3,hold,(show Bs H H1 from by rw [hH1];exact⟨by simp,by simp⟩).trans (bs2.trans ⟨by simp,by simp⟩)⟩
 ·refine⟨v2,H,by rw [e3,e4],le_refl,?_,Bs.refl _⟩;have hf2:=CH hf hc2;refine⟨hold.1,?_⟩;rcases hold.2 with h|⟨k,c,rest,rfl,_⟩
  ·exact .inl h
  ·simp [ao,az,aA]at hf2
end
end Go.Proofs.YtbeoilidocfofaaGreatDoor.Sn
namespace Go.Proofs.YtbeoilidocfofaaGreatDoor
open Go.ChangeShapes Go.WideShapes Go.ChangeAt Go.RowKit Go.Tg Go.Lg
theorem RC {W:World} (h:W.ShapedOpen Tryz.prog):dU (LH.empty W (2+1)):=by
 refine⟨Nat.lt_succ_self _,?_⟩;exact Go.Proofs.cell_of_shapedOpen_int (P:=Tryz.prog) (w:=W) (zero:=#[.int .i64 0]) (t:=3) (g:=2) h (of_decide_eq_true (by kernel_rfl)) (by kernel_rfl) rfl (by kernel_rfl) (by kernel_rfl) Tryz.underlying3
theorem Pg {W:World} (h:W.ShapedOpen Tryz.prog):2+1<=W.heap.size:=by
 obtain⟨m,h2⟩:=Go.Proofs.cell_of_shapedOpen_int (P:=Tryz.prog) (w:=W) (zero:=#[.int .i64 0]) (t:=3) (g:=2) h (of_decide_eq_true (by kernel_rfl)) (by kernel_rfl) rfl (by kernel_rfl) (by kernel_rfl) Tryz.underlying3;have h2':W.cell? ⟨2,0,none⟩=some (.int .i64 m):=h2;rcases Nat.lt_or_ge 2 W.heap.size with h3|h3
 ·omega
 ·simp [World.cell?,Array.getElem?_eq_none h3]at h2'
theorem iW {H:Type} {enc:TypeId×Value->H} {a:Assume} {C:Checked} {os:Os} {f:FuncId} {fn:Func} {s:ChangeSpec} {conds:List PathCond} {apart fresh handsOn again:Bool} {X:World->Array Value->Prop}
  (hX: ∀(w w':World) (args:Array Value),w.heap=w'.heap->X w args->X w' args)
  (own:Go.ownKnob C.prog.godebug=none) (started:os.Started) (noInit:C.prog.inits.idxOf? f=none) (hfn:C.prog.funcs[f]?=some fn)
  (witness: ∃(w:World) (tape:Tape) (i:Input),w.os=os/\(w.forCall tape i).Shaped C.prog/\i.vars= []/\Input.okWide C.prog (w.forCall tape i) .any w.heap.size f i/\
   ((s.pre enc C.prog fn conds apart (w.forCall tape i).memory i.args/\X (w.forCall tape i).memory i.args)/\sizedMet enc C.prog fn (OpenSpec.ofChange s) apart (w.forCall tape i).memory i.args)/\a.holds C.prog (lone (Frame.enter C.prog f i.args .normal) [] (w.forCall tape i)))
  (contract: ∀(W:World) (base:Nat) (args:Array Value) (ds gs:List (DataW H)) (before:List MemPlace),
   (∀(j:Nat) t v,fn.params[j]?=some t->args[j]?=some v->Value.okWide C.prog W .any base t v)->
   DataW.Whole enc C.prog fn.params.toList s.vars apart W args.toList ds gs before->
   X W args->W.ShapedOpen C.prog->
   Calls C.prog f args W fun e W'=> ∃v,e=.returned v/\s.post enc C.prog fn apart fresh handsOn again W args v W'):
  ReturnsInHanded a C os f .any (fun w args=>(s.pre enc C.prog fn conds apart w args/\X w args)/\sizedMet enc C.prog fn (OpenSpec.ofChange s) apart w args) (s.post enc C.prog fn apart fresh handsOn again):=by
 refine returnsInHanded_of_calls own started noInit witness ?_;intro w tape i _ hsh _ hok hpre hholds;obtain⟨_,_,_,fn',hfn',_,_,_,_,hval⟩:=hok;have e:fn'=fn:=Option.some.inj (hfn'.symm.trans hfn);subst e;obtain⟨⟨⟨ds,gs,before,hw,hc⟩,hx⟩,hz⟩:=hpre;have hw':=DataW.Whole.of_heap (w':=w.forCall tape i) (by rfl) hw;refine(contract (w.forCall tape i) w.heap.size i.args ds gs before hval hw' (hX _ _ _ (by rfl) hx) hsh).mono fun e W' ⟨v,he,hp⟩=>?_;subst he;exact ChangeSpec.post_blind hp
end Go.Proofs.YtbeoilidocfofaaGreatDoor
namespace Go.Proofs.YtbeoilidocfofaaGreatDoor.Sn
open Go.ChangeShapes Go.WideShapes Go.ChangeAt Go.RowKit Go.Tg Go.Lg
theorem nI:Tryz.prog.cellsOf 58=2:=by kernel_rfl
theorem s5:Tryz.prog.cellsOf 26=1:=by kernel_rfl
theorem iX:Tryz.prog.cellsOf 9=1:=by kernel_rfl
theorem iY:Tryz.prog.cellsOf 3=1:=by kernel_rfl
theorem gR:Tryz.prog.cellsOf 4=1:=by kernel_rfl
theorem oW:Tryz.prog.cellsOf 25=4:=by kernel_rfl
theorem oX:Tryz.prog.cellsOf 28=2:=by kernel_rfl
theorem qL {HH:Type} {enc:TypeId×Value->HH} {W:World} {base fuel:Nat} {sp:Nat->Bool} {held:Bool} {cs:List Value} {x:DataW HH×List MemPlace} (n:Nat) (hf:DataW.trod enc Tryz.prog W base sp held fuel 58 cs=some x): ∃a:Tg.Hd.Hdr,cs.map (cP n)= [str a.1,str a.2]:=by
 cases fuel with
 |zero=>simp [DataW.trod]at hf
 |succ m=>
  rw [DataW.trod_step]at hf;unfold DataW.trodStep at hf;simp only [Tryz.underlying58,Value.cells]at hf;split at hf
  ·rename_i hs;rw [nI]at hs
   match cs,hs with
   | [c0,c1],_=>
   simp only [Option.map_eq_some_iff]at hf;obtain⟨xs,hx,e1⟩:=hf;simp only [List.mapM_cons,List.mapM_nil,bind,Option.bind_eq_some_iff,pure,Option.some.injEq,iX]at hx;obtain⟨y0,h0,_,⟨y1,h1,_,rfl,rfl⟩,rfl⟩:=hx;obtain⟨s0,q0,_,_⟩:=DataW.trod_string Tryz.underlying9 h0;obtain⟨s1,q1,_,_⟩:=DataW.trod_string Tryz.underlying9 h1;simp at q0 q1;subst q0;subst q1;exact⟨(s0.data.toList,s1.data.toList),by simp only [kx];rfl⟩
  ·cases hf
theorem CJ {W:World} {g:Nat} {v:Value} {xs:List Tg.Hd.Hdr} (h:HJ (LH.lift W g) 2 (fun(a:Tg.Hd.Hdr) cs=>cs= [str a.1,str a.2]) v xs):bT (LH.lift W g) v xs:=by
 rcases h with h|⟨l,o,c,h1,_,h2,h3⟩
 ·exact .inl h
 ·refine .inr ⟨l,o,c,h1,fun hne=>?_⟩;obtain⟨b,h4,h5,h6⟩:=h3 hne;refine⟨b,h4,h2,fun i hi=>?_⟩;have h7:=h6 i xs[i] (List.getElem?_eq_getElem hi)
  have hle:o+i*2+2<=b.cells.length:=by
   have:=Nat.mul_le_mul_right 2 (show i+1<=xs.length by omega);omega
  have e1:b.cells[o+i*2]?=((b.cells.drop (o+i*2)).take 2)[0]?:=by rw [List.getElem?_take,if_pos (by decide),List.getElem?_drop];rfl
  have e2:b.cells[o+i*2+1]?=((b.cells.drop (o+i*2)).take 2)[1]?:=by rw [List.getElem?_take,if_pos (by decide),List.getElem?_drop]
  exact⟨hle,h7,by rw [e1,h7];rfl,by rw [e2,h7];rfl⟩
theorem ir {n:Nat} {k:IntKind} {x:Int} :cP n (.int k x)=.int k x:=rfl
theorem iZ {n:Nat} {x:Bool} :cP n (.bool x)=.bool x:=rfl
theorem oY {n:Nat} (s:ByteArray):cP n (.string s)=str s.data.toList:=by rw [<-kx];rfl
theorem oZ {n:Nat} {cs:Array Value} {l:List Value} (h:cs.toList.map (cP n)=l):lf n (.agg cs)=.agg ⟨l⟩:=by
 show Value.agg (cs.map (cP n))=_;congr 1;rw [<-h,<-Array.toList_map]
theorem Ph:Tryz.prog.globalNamed "strings.asciiSpace" =some 0:=by kernel_rfl
theorem Ic {W:World} (h:W.ShapedOpen Tryz.prog):3<=W.heap.size:=Pg h
theorem maxO {W:World} (h:W.ShapedOpen Tryz.prog):dU (LH.lift W 3):=⟨by show 2<3;decide,(RC h).2⟩
noncomputable def qM:List (String×DataW Unit):= [("unicode/utf8.acceptRanges",Rows.laid_unicode_utf8_acceptRanges),("unicode.White_Space",Rows.laid_unicode_White_Space),("strings.asciiSpace",Rows.laid_strings_asciiSpace),("unicode/utf8.first",Rows.laid_unicode_utf8_first)]
theorem nW {W:World} (h:laidMetH Tryz.prog qM W):Lib.TabIs Tryz.prog W "strings.asciiSpace" .u8 Lib.asciiSpaceTab:=by
 have h1:laidMet Tryz.prog qM W:=by rwa [MakeChecks.laidMetH_plain _ _ _ (by kernel_rfl)]at h
 have h2:=h1.filter (fun x=>x.1== "strings.asciiSpace");have e:qM.filter (fun x=>x.1== "strings.asciiSpace")= [("strings.asciiSpace",Lib.tabData .u8 Lib.asciiSpaceTab)]:=by kernel_rfl
 rw [e]at h2;exact Lib.tabIs_of_head (g:=0) (t:=144) (e:=5) (n:=256) Ph (by kernel_rfl) (by kernel_rfl) (by kernel_rfl) (by kernel_rfl) (by kernel_rfl) h2
theorem tabS4 {W:World} (h:laidMetH Tryz.prog qM W):cJ (LH.lift W 3):=⟨by show 0<3;decide,nW h⟩
theorem goes_of {P:Program} {c:OpenClaim} (h:P.funcs.any Func.goes=false):false=c.goesBy P:=by
 have hf: ∀(g:Nat),(P.funcs[g]?).any Func.goes=false:=fun g=>by
  cases hx:P.funcs[g]? with
  |none=>rfl
  |some fn=>
   cases hg:fn.goes with
   |false=>exact hg
   |true=>
    have:P.funcs.any Func.goes=true:=Array.any_eq_true'.2 ⟨fn,Array.mem_of_getElem? hx,hg⟩;rw [h]at this;cases this
 have key: ∀f,P.goes f=false:=fun f=>by
  unfold Program.goes;rw [h,Bool.and_false,Bool.or_false];simp only [hf];simp
 unfold OpenClaim.goesBy Program.goesAt Program.goesFrom
 have e1:(P.funcNamed c.func).any P.goes=false:=by
  cases P.funcNamed c.func with
  |none=>rfl
  |some f=>exact key f
 rw [e1,Bool.false_or];cases c.start<;>simp [key]
end Go.Proofs.YtbeoilidocfofaaGreatDoor.Sn
namespace Tg.Ob
def isJson (s t:List UInt8):Bool:=(decide (5<=t.length)&&decide (t.drop (t.length-5)= [43,106,115,111,110]))||((decide (s= [97,112,112,108,105,99,97,116,105,111,110])&&decide (t= [106,115,111,110]))||(decide (s= [116,101,120,116])&&decide (t= [106,115,111,110])))
def K8:List (List UInt8):= [[97,112,112,108,105,99,97,116,105,111,110,47,100,97,115,104,43,120,109,108],[97,112,112,108,105,99,97,116,105,111,110,47,103,122,105,112],[97,112,112,108,105,99,97,116,105,111,110,47,109,115,101,120,99,101,108],[97,112,112,108,105,99,97,116,105,111,110,47,109,115,112,111,119,101,114,112,111,105,110,116],[97,112,112,108,105,99,97,116,105,111,110,47,109,115,119,111,114,100],[97,112,112,108,105,99,97,116,105,111,110,47,112,100,102],[97,112,112,108,105,99,97,116,105,111,110,47,120,45,103,122,105,112],[97,112,112,108,105,99,97,116,105,111,110,47,120,45,112,114,111,116,111,98,117,102],[97,112,112,108,105,99,97,116,105,111,110,47,122,105,112],[97,112,112,108,105,99,97,116,105,111,110,47,118,110,100,46,97,112,112,108,101,46,109,112,101,103,117,114,108],[97,112,112,108,105,99,97,116,105,111,110,47,118,110,100,46,109,115,45,101,120,99,101,108],[97,112,112,108,105,99,97,116,105,111,110,47,118,110,100,46,109,115,45,112,111,119,101,114,112,111,105,110,116],[97,112,112,108,105,99,97,116,105,111,110,47,118,110,100,46,109,115,45,119,111,114,100],[97,112,112,108,105,99,97,116,105,111,110,47,118,110,100,46,111,112,101,110,120,109,108,102,111,114,109,97,116,115,45,111,102,102,105,99,101,100,111,99,117,109,101,110,116,46,119,111,114,100,112,114,111,99,101,115,115,105,110,103,109,108,46,100,111,99,117,109,101,110,116],[97,117,100,105,111,47,109,112,101,103,117,114,108],[116,101,120,116,47,99,115,118],[116,101,120,116,47,101,118,101,110,116,45,115,116,114,101,97,109],[116,101,120,116,47,118,116,116],[109,117,108,116,105,112,97,114,116,47,98,121,116,101,114,97,110,103,101,115],[109,117,108,116,105,112,97,114,116,47,115,105,103,110,101,100]]
def isNever (s t:List UInt8):Bool:=(decide (s= [97,112,112,108,105,99,97,116,105,111,110])&&decide (t∈ [[100,97,115,104,43,120,109,108],[103,122,105,112],[109,115,101,120,99,101,108],[109,115,112,111,119,101,114,112,111,105,110,116],[109,115,119,111,114,100],[112,100,102],[120,45,103,122,105,112],[120,45,112,114,111,116,111,98,117,102],[122,105,112],[118,110,100,46,97,112,112,108,101,46,109,112,101,103,117,114,108],[118,110,100,46,109,115,45,101,120,99,101,108],[118,110,100,46,109,115,45,112,111,119,101,114,112,111,105,110,116],[118,110,100,46,109,115,45,119,111,114,100],[118,110,100,46,111,112,101,110,120,109,108,102,111,114,109,97,116,115,45,111,102,102,105,99,101,100,111,99,117,109,101,110,116,46,119,111,114,100,112,114,111,99,101,115,115,105,110,103,109,108,46,100,111,99,117,109,101,110,116]]))||((decide (s= [97,117,100,105,111])&&decide (t= [109,112,101,103,117,114,108]))||((decide (s= [116,101,120,116])&&decide (t∈ [[99,115,118],[101,118,101,110,116,45,115,116,114,101,97,109],[118,116,116]]))||(decide (s= [109,117,108,116,105,112,97,114,116])&&decide (t∈ [[98,121,116,101,114,97,110,103,101,115],[115,105,103,110,101,100]]))))
end Tg.Ob
namespace Go.Proofs.YtbeoilidocfofaaGreatDoor.Sn
open Go.Lg Go.Tg
open Tg.Ob (K8)
section
variable {H:LH} {s t:List UInt8} {pa:Option Addr} {pl pc:Nat}
theorem qN (hl:t.length<=1000000) (ht:cJ H):LC Tryz.prog EJ 61 [uS s t (.slice pa pl pc)] H=some (.bool (Tg.Ob.isJson s t),H):=by
 refine ag rfl Tryz.func61 rfl (Nat.le_of_ble_eq_true rfl) (by decide) (by kernel_rfl) rfl ?_;have h0:=fun H:LH=>oV (H:=H) (q:= [43,106,115,111,110]) hl;simp only [List.length_cons,List.length_nil]at h0;have h1:=dp (H:=H.new ⟨[str s,str t,.slice pa pl pc],70,true⟩) (s:=s) (t:=t) (pa:=pa) (pl:=pl) (pc:=pc) (k:= [97,112,112,108,105,99,97,116,105,111,110]) (u:= [106,115,111,110]) (ws:= [[106,115,111,110]]) (n:=1) (by decide) (by decide) (by decide+kernel) rfl (by decide) (show cJ (H.new _) from ht);have h2:=dp (H:=H.new ⟨[str s,str t,.slice pa pl pc],70,true⟩) (s:=s) (t:=t) (pa:=pa) (pl:=pl) (pc:=pc) (k:= [116,101,120,116]) (u:= [106,115,111,110]) (ws:= [[106,115,111,110]]) (n:=1) (by decide) (by decide) (by decide+kernel) rfl (by decide) (show cJ (H.new _) from ht);have e: ∀k:List UInt8,(decide (s=k)&&decide (t∈ [[106,115,111,110]]))=(decide (s=k)&&decide (t= [106,115,111,110])):=fun k=>by simp
 rw [e]at h1 h2;unfold Tg.Ob.isJson;generalize (decide (s= [97,112,112,108,105,99,97,116,105,111,110])&&decide (t= [106,115,111,110]))=b1 at*;generalize (decide (s= [116,101,120,116])&&decide (t= [106,115,111,110]))=b2 at*;generalize (decide (0+1+1+1+1+1<=t.length)&&decide (t.drop (t.length-(0+1+1+1+1+1))= [43,106,115,111,110]))=b3 at*;cases b3<;>cases b1<;>cases b2<;>simp [h0,h1,h2]
theorem CK {x:List UInt8} (hl:s.length+t.length<=1000000):LC Tryz.prog EJ 57 [uS s t (.slice pa pl pc),str x] H=some (.bool (decide (s++47::t=x)),H):=by
 refine ag rfl Tryz.func57 rfl (Nat.le_of_ble_eq_true rfl) (by decide) (by kernel_rfl) rfl ?_;have h1:=fun H:LH=>nC (H:=H) (pa:=pa) (pl:=pl) (pc:=pc) hl;generalize s++47::t=e at*;simp [h1]
theorem s6 (hl:s.length+t.length<=1000000) (ht:cJ H):LC Tryz.prog EJ 35 [uS s t (.slice pa pl pc)] H=some (.bool (Tg.Ob.isNever s t),H):=by
 refine ag rfl Tryz.func35 rfl (Nat.le_of_ble_eq_true rfl) (by decide) (by kernel_rfl) rfl ?_;have h1:=dp (H:=H.new ⟨[str s,str t,.slice pa pl pc],70,true⟩) (s:=s) (t:=t) (pa:=pa) (pl:=pl) (pc:=pc) (k:= [97,112,112,108,105,99,97,116,105,111,110]) (u:= [100,97,115,104,43,120,109,108,32,103,122,105,112,32,109,115,101,120,99,101,108,32,109,115,112,111,119,101,114,112,111,105,110,116,32,109,115,119,111,114,100,32,112,100,102,32,120,45,103,122,105,112,32,120,45,112,114,111,116,111,98,117,102,32,122,105,112,32,118,110,100,46,97,112,112,108,101,46,109,112,101,103,117,114,108,32,118,110,100,46,109,115,45,101,120,99,101,108,32,118,110,100,46,109,115,45,112,111,119,101,114,112,111,105,110,116,32,118,110,100,46,109,115,45,119,111,114,100,32,118,110,100,46,111,112,101,110,120,109,108,102,111,114,109,97,116,115,45,111,102,102,105,99,101,100,111,99,117,109,101,110,116,46,119,111,114,100,112,114,111,99,101,115,115,105,110,103,109,108,46,100,111,99,117,109,101,110,116]) (ws:= [[100,97,115,104,43,120,109,108],[103,122,105,112],[109,115,101,120,99,101,108],[109,115,112,111,119,101,114,112,111,105,110,116],[109,115,119,111,114,100],[112,100,102],[120,45,103,122,105,112],[120,45,112,114,111,116,111,98,117,102],[122,105,112],[118,110,100,46,97,112,112,108,101,46,109,112,101,103,117,114,108],[118,110,100,46,109,115,45,101,120,99,101,108],[118,110,100,46,109,115,45,112,111,119,101,114,112,111,105,110,116],[118,110,100,46,109,115,45,119,111,114,100],[118,110,100,46,111,112,101,110,120,109,108,102,111,114,109,97,116,115,45,111,102,102,105,99,101,100,111,99,117,109,101,110,116,46,119,111,114,100,112,114,111,99,101,115,115,105,110,103,109,108,46,100,111,99,117,109,101,110,116]]) (n:=14) (by decide) (by decide) (by decide+kernel) rfl (by decide) (show cJ (H.new _) from ht);have h2:=fun H:LH=>CK (H:=H) (pa:=pa) (pl:=pl) (pc:=pc) (x:= [97,117,100,105,111,47,109,112,101,103,117,114,108]) hl;have e2:=Tg.Sn.ess_dec (s:=s) (t:=t) (a:= [97,117,100,105,111]) (b:= [109,112,101,103,117,114,108]) (c:= [97,117,100,105,111,47,109,112,101,103,117,114,108]) (by decide) (by decide) rfl;rw [e2]at h2;have h3:=dp (H:=H.new ⟨[str s,str t,.slice pa pl pc],70,true⟩) (s:=s) (t:=t) (pa:=pa) (pl:=pl) (pc:=pc) (k:= [116,101,120,116]) (u:= [99,115,118,32,101,118,101,110,116,45,115,116,114,101,97,109,32,118,116,116]) (ws:= [[99,115,118],[101,118,101,110,116,45,115,116,114,101,97,109],[118,116,116]]) (n:=3) (by decide) (by decide) (by decide+kernel) rfl (by decide) (show cJ (H.new _) from ht);have h4:=dp (H:=H.new ⟨[str s,str t,.slice pa pl pc],70,true⟩) (s:=s) (t:=t) (pa:=pa) (pl:=pl) (pc:=pc) (k:= [109,117,108,116,105,112,97,114,116]) (u:= [98,121,116,101,114,97,110,103,101,115,32,115,105,103,110,101,100]) (ws:= [[98,121,116,101,114,97,110,103,101,115],[115,105,103,110,101,100]]) (n:=2) (by decide) (by decide) (by decide+kernel) rfl (by decide) (show cJ (H.new _) from ht);unfold Tg.Ob.isNever;generalize (decide (s= [97,112,112,108,105,99,97,116,105,111,110])&&decide (t∈ [[100,97,115,104,43,120,109,108],[103,122,105,112],[109,115,101,120,99,101,108],[109,115,112,111,119,101,114,112,111,105,110,116],[109,115,119,111,114,100],[112,100,102],[120,45,103,122,105,112],[120,45,112,114,111,116,111,98,117,102],[122,105,112],[118,110,100,46,97,112,112,108,101,46,109,112,101,103,117,114,108],[118,110,100,46,109,115,45,101,120,99,101,108],[118,110,100,46,109,115,45,112,111,119,101,114,112,111,105,110,116],[118,110,100,46,109,115,45,119,111,114,100],[118,110,100,46,111,112,101,110,120,109,108,102,111,114,109,97,116,115,45,111,102,102,105,99,101,100,111,99,117,109,101,110,116,46,119,111,114,100,112,114,111,99,101,115,115,105,110,103,109,108,46,100,111,99,117,109,101,110,116]]))=b1 at*;generalize (decide (s= [97,117,100,105,111])&&decide (t= [109,112,101,103,117,114,108]))=b2 at*;generalize (decide (s= [116,101,120,116])&&decide (t∈ [[99,115,118],[101,118,101,110,116,45,115,116,114,101,97,109],[118,116,116]]))=b3 at*;generalize (decide (s= [109,117,108,116,105,112,97,114,116])&&decide (t∈ [[98,121,116,101,114,97,110,103,101,115],[115,105,103,110,101,100]]))=b4 at*;cases b1
 ·cases b2
  ·cases b3
   ·simp [h1,h2,h3,h4]
   ·simp [h1,h2,h3]
  ·simp [h1,h2]
 ·simp [h1]
end
end Go.Proofs.YtbeoilidocfofaaGreatDoor.Sn
namespace Tg.Ob
def isScript (s t:List UInt8):Bool:=(decide (s= [97,112,112,108,105,99,97,116,105,111,110])&&decide (t∈ [[101,99,109,97,115,99,114,105,112,116],[106,97,118,97,115,99,114,105,112,116],[120,45,101,99,109,97,115,99,114,105,112,116],[120,45,106,97,118,97,115,99,114,105,112,116]]))||(decide (s= [116,101,120,116])&&decide (t∈ [[101,99,109,97,115,99,114,105,112,116],[106,97,118,97,115,99,114,105,112,116],[120,45,101,99,109,97,115,99,114,105,112,116],[120,45,106,97,118,97,115,99,114,105,112,116],[106,97,118,97,115,99,114,105,112,116,49,46,48],[106,97,118,97,115,99,114,105,112,116,49,46,49],[106,97,118,97,115,99,114,105,112,116,49,46,50],[106,97,118,97,115,99,114,105,112,116,49,46,51],[106,97,118,97,115,99,114,105,112,116,49,46,52],[106,97,118,97,115,99,114,105,112,116,49,46,53],[106,115,99,114,105,112,116],[108,105,118,101,115,99,114,105,112,116]]))
def isSafe (s t:List UInt8):Bool:=isScript s t||(decide (s= [116,101,120,116])&&decide (t∈ [[99,115,115]]))||decide (s++47::t= [105,109,97,103,101,47,115,118,103,43,120,109,108])
def isListed (s t:List UInt8):Bool:=Tg.Sn.isHtml s t||isJson s t||(Tg.Sn.isXml s t&&!decide (s++47::t= [105,109,97,103,101,47,115,118,103,43,120,109,108]))
end Tg.Ob
namespace Go.Proofs.YtbeoilidocfofaaGreatDoor.Sn
open Go.Lg Go.Tg
section
variable {H:LH} {s t:List UInt8} {pa:Option Addr} {pl pc:Nat}
theorem yf (ht:cJ H):LC Tryz.prog EJ 62 [uS s t (.slice pa pl pc)] H=some (.bool (Tg.Ob.isScript s t),H):=by
 refine ag rfl Tryz.func62 rfl (Nat.le_of_ble_eq_true rfl) (by decide) (by kernel_rfl) rfl ?_;have h1:=dp (H:=H.new ⟨[str s,str t,.slice pa pl pc],70,true⟩) (s:=s) (t:=t) (pa:=pa) (pl:=pl) (pc:=pc) (k:= [97,112,112,108,105,99,97,116,105,111,110]) (u:= [101,99,109,97,115,99,114,105,112,116,32,106,97,118,97,115,99,114,105,112,116,32,120,45,101,99,109,97,115,99,114,105,112,116,32,120,45,106,97,118,97,115,99,114,105,112,116,32]) (ws:= [[101,99,109,97,115,99,114,105,112,116],[106,97,118,97,115,99,114,105,112,116],[120,45,101,99,109,97,115,99,114,105,112,116],[120,45,106,97,118,97,115,99,114,105,112,116]]) (n:=4) (by decide) (by decide) (by decide+kernel) rfl (by decide) (show cJ (H.new _) from ht);have h2:=dp (H:=H.new ⟨[str s,str t,.slice pa pl pc],70,true⟩) (s:=s) (t:=t) (pa:=pa) (pl:=pl) (pc:=pc) (k:= [116,101,120,116]) (u:= [101,99,109,97,115,99,114,105,112,116,32,106,97,118,97,115,99,114,105,112,116,32,120,45,101,99,109,97,115,99,114,105,112,116,32,120,45,106,97,118,97,115,99,114,105,112,116,32,106,97,118,97,115,99,114,105,112,116,49,46,48,32,106,97,118,97,115,99,114,105,112,116,49,46,49,32,106,97,118,97,115,99,114,105,112,116,49,46,50,32,106,97,118,97,115,99,114,105,112,116,49,46,51,32,106,97,118,97,115,99,114,105,112,116,49,46,52,32,106,97,118,97,115,99,114,105,112,116,49,46,53,32,106,115,99,114,105,112,116,32,108,105,118,101,115,99,114,105,112,116]) (ws:= [[101,99,109,97,115,99,114,105,112,116],[106,97,118,97,115,99,114,105,112,116],[120,45,101,99,109,97,115,99,114,105,112,116],[120,45,106,97,118,97,115,99,114,105,112,116],[106,97,118,97,115,99,114,105,112,116,49,46,48],[106,97,118,97,115,99,114,105,112,116,49,46,49],[106,97,118,97,115,99,114,105,112,116,49,46,50],[106,97,118,97,115,99,114,105,112,116,49,46,51],[106,97,118,97,115,99,114,105,112,116,49,46,52],[106,97,118,97,115,99,114,105,112,116,49,46,53],[106,115,99,114,105,112,116],[108,105,118,101,115,99,114,105,112,116]]) (n:=12) (by decide) (by decide) (by decide+kernel) rfl (by decide) (show cJ (H.new _) from ht);unfold Tg.Ob.isScript;generalize (decide (s= [97,112,112,108,105,99,97,116,105,111,110])&&decide (t∈ [[101,99,109,97,115,99,114,105,112,116],[106,97,118,97,115,99,114,105,112,116],[120,45,101,99,109,97,115,99,114,105,112,116],[120,45,106,97,118,97,115,99,114,105,112,116]]))=b1 at*;generalize (decide (s= [116,101,120,116])&&decide (t∈ [[101,99,109,97,115,99,114,105,112,116],[106,97,118,97,115,99,114,105,112,116],[120,45,101,99,109,97,115,99,114,105,112,116],[120,45,106,97,118,97,115,99,114,105,112,116],[106,97,118,97,115,99,114,105,112,116,49,46,48],[106,97,118,97,115,99,114,105,112,116,49,46,49],[106,97,118,97,115,99,114,105,112,116,49,46,50],[106,97,118,97,115,99,114,105,112,116,49,46,51],[106,97,118,97,115,99,114,105,112,116,49,46,52],[106,97,118,97,115,99,114,105,112,116,49,46,53],[106,115,99,114,105,112,116],[108,105,118,101,115,99,114,105,112,116]]))=b2 at*;cases b1
 ·cases b2<;>simp [h1,h2]
 ·simp [h1]
theorem Gb (hl:s.length+t.length<=1000000) (ht:cJ H):LC Tryz.prog EJ 40 [uS s t (.slice pa pl pc)] H=some (.bool (Tg.Ob.isSafe s t),H):=by
 refine ag rfl Tryz.func40 rfl (Nat.le_of_ble_eq_true rfl) (by decide) (by kernel_rfl) rfl ?_;have h1:=yf (H:=H.new ⟨[str s,str t,.slice pa pl pc],70,true⟩) (s:=s) (t:=t) (pa:=pa) (pl:=pl) (pc:=pc) (show cJ (H.new _) from ht);have h2:=dp (H:=H.new ⟨[str s,str t,.slice pa pl pc],70,true⟩) (s:=s) (t:=t) (pa:=pa) (pl:=pl) (pc:=pc) (k:= [116,101,120,116]) (u:= [99,115,115]) (ws:= [[99,115,115]]) (n:=1) (by decide) (by decide) (by decide+kernel) rfl (by decide) (show cJ (H.new _) from ht);have h3:=fun H:LH=>CK (H:=H) (pa:=pa) (pl:=pl) (pc:=pc) (x:= [105,109,97,103,101,47,115,118,103,43,120,109,108]) hl;unfold Tg.Ob.isSafe;generalize Tg.Ob.isScript s t=b1 at*;generalize (decide (s= [116,101,120,116])&&decide (t∈ [[99,115,115]]))=b2 at*;generalize decide (s++47::t= [105,109,97,103,101,47,115,118,103,43,120,109,108])=b3 at*;cases b1
 ·cases b2
  ·cases b3<;>simp [h1,h2,h3]
  ·simp [h1,h2]
 ·simp [h1]
theorem yg (hl:s.length+t.length<=1000000) (ht:cJ H):LC Tryz.prog EJ 42 [uS s t (.slice pa pl pc)] H=some (.bool (Tg.Ob.isListed s t),H):=by
 refine ag rfl Tryz.func42 rfl (Nat.le_of_ble_eq_true rfl) (by decide) (by kernel_rfl) rfl ?_;have h1:=qJ (H:=H.new ⟨[str s,str t,.slice pa pl pc],70,true⟩) (s:=s) (t:=t) (pa:=pa) (pl:=pl) (pc:=pc) (show cJ (H.new _) from ht);have h2:=qN (H:=H.new ⟨[str s,str t,.slice pa pl pc],70,true⟩) (s:=s) (t:=t) (pa:=pa) (pl:=pl) (pc:=pc) (by omega) (show cJ (H.new _) from ht);have h4:=uT (H:=H.new ⟨[str s,str t,.slice pa pl pc],70,true⟩) (s:=s) (t:=t) (pa:=pa) (pl:=pl) (pc:=pc) (by omega) (show cJ (H.new _) from ht);have h3:=fun H:LH=>CK (H:=H) (pa:=pa) (pl:=pl) (pc:=pc) (x:= [105,109,97,103,101,47,115,118,103,43,120,109,108]) hl;unfold Tg.Ob.isListed;generalize Tg.Sn.isHtml s t=b1 at*;generalize Tg.Ob.isJson s t=b2 at*;generalize Tg.Sn.isXml s t=b4 at*;generalize decide (s++47::t= [105,109,97,103,101,47,115,118,103,43,120,109,108])=b3 at*;cases b1
 ·cases b2
  ·cases b4
   ·simp [h1,h2,h4]
   ·cases b3<;>simp [h1,h2,h3,h4]
  ·simp [h1,h2]
 ·simp [h1]
end
end Go.Proofs.YtbeoilidocfofaaGreatDoor.Sn
namespace Tg.Ob
def plainE:List UInt8:= [116,101,120,116,47,112,108,97,105,110]
def ofG (has p:Bool) (e:List UInt8):Bool:=((has&&p)&&!decide (e= [105,109,97,103,101,47,115,118,103,43,120,109,108]))||(has&&decide (e= [116,101,120,116,47,112,108,97,105,110]))
def guardP (has:Bool) (s t:List UInt8):Bool:=(ofG has (Tg.Sn.isHtml s t) (s++47::t)||ofG has (Tg.Sn.isXml s t) (s++47::t))||ofG has (isJson s t) (s++47::t)
end Tg.Ob
namespace Go.Proofs.YtbeoilidocfofaaGreatDoor.Sn
open Go.Lg Go.Tg
section
variable {H:LH} {s t:List UInt8} {pa:Option Addr} {pl pc:Nat} {h n g:Bool}
theorem Pj {x:List UInt8} (hl:s.length+t.length<=1000000):LC Tryz.prog EJ 89 [svp s t (.slice pa pl pc) h n g,str x] H=some (.bool (h&&decide (s++47::t=x)),H):=by
 refine ag rfl Tryz.func89 rfl (Nat.le_of_ble_eq_true rfl) (by decide) (by kernel_rfl) rfl ?_;have h1:=fun H:LH=>nC (H:=H) (pa:=pa) (pl:=pl) (pc:=pc) hl;generalize s++47::t=e at*;cases h<;>simp [h1]
theorem qO {b:LB} (ht:cJ H):cJ (H.new b):=ht
theorem o0 {f:FuncId} {p:Bool} (hf: ∀H:LH,cJ H->LC Tryz.prog EJ f [uS s t (.slice pa pl pc)] H=some (.bool p,H)) (hl:s.length+t.length<=1000000) (ht:cJ H):LC Tryz.prog EJ 58 [svp s t (.slice pa pl pc) h n g,.func (.func f) #[] #[]] H=some (.bool (Tg.Ob.ofG h p (s++47::t)),H):=by
 refine ag rfl Tryz.func58 rfl (Nat.le_of_ble_eq_true rfl) (by decide) (by kernel_rfl) rfl ?_;have h1:=fun(x:List UInt8) (H:LH)=>Pj (H:=H) (pa:=pa) (pl:=pl) (pc:=pc) (h:=h) (n:=n) (g:=g) (x:=x) hl;have h2:=hf _ (qO (b:=⟨[str s,str t,.slice pa pl pc,.bool h,.bool n,.bool g],72,true⟩) ht);unfold Tg.Ob.ofG;generalize s++47::t=e at*;cases h with
 |false=>simp [h1]
 |true=>
  cases p with
  |false=>simp [h1,h2]
  |true=>
   by_cases q:e= [105,109,97,103,101,47,115,118,103,43,120,109,108]
   ·simp [h1,h2,q]
   ·simp [h1,h2,q]
theorem CL (hl:s.length+t.length<=1000000) (ht:cJ H):LC Tryz.prog EJ 36 [svp s t (.slice pa pl pc) h n g] H=some (.bool (Tg.Ob.guardP h s t),H):=by
 refine ag rfl Tryz.func36 rfl (Nat.le_of_ble_eq_true rfl) (by decide) (by kernel_rfl) rfl ?_;have ht1:=qO (b:=⟨[str s,str t,.slice pa pl pc,.bool h,.bool n,.bool g],72,true⟩) ht;have h1:=o0 (f:=59) (h:=h) (n:=n) (g:=g) (fun H ht=>qJ (H:=H) (s:=s) (t:=t) (pa:=pa) (pl:=pl) (pc:=pc) ht) hl ht1;have h2:=o0 (f:=60) (h:=h) (n:=n) (g:=g) (fun H ht=>uT (H:=H) (s:=s) (t:=t) (pa:=pa) (pl:=pl) (pc:=pc) (by omega) ht) hl ht1;have h3:=o0 (f:=61) (h:=h) (n:=n) (g:=g) (fun H ht=>qN (H:=H) (s:=s) (t:=t) (pa:=pa) (pl:=pl) (pc:=pc) (by omega) ht) hl ht1;unfold Tg.Ob.guardP;generalize Tg.Ob.ofG h (Tg.Sn.isHtml s t) (s++47::t)=b1 at*;generalize Tg.Ob.ofG h (Tg.Sn.isXml s t) (s++47::t)=b2 at*;generalize Tg.Ob.ofG h (Tg.Ob.isJson s t) (s++47::t)=b3 at*;cases b1
 ·cases b2
  ·simp [h1,h2,h3]
  ·simp [h1,h2]
 ·simp [h1]
end
end Go.Proofs.YtbeoilidocfofaaGreatDoor.Sn
namespace Tg.Ob
open Tg.Un (pre)
def breakL:List (List UInt8):= [[41,93,125,39],[123,125,38,38],[102,111,114,40,59,59,41,59]]
def breakP (s:List UInt8):Bool:=breakL.any (pre s)
end Tg.Ob
namespace Go.Proofs.YtbeoilidocfofaaGreatDoor.Mi
open Go.Lg Go.Tg
section
variable {H:LH} {s t:List UInt8} {p:Nat}
theorem CM (hg:H.get p=some ⟨[str s],9,true⟩) (hp:p<H.n):LC Tryz.prog EJ 94 [str t,ptr p 0] H=some (.bool (Tg.Un.pre s t),H):=by
 refine ag rfl Tryz.func94 rfl (Nat.le_of_ble_eq_true rfl) (by decide) (by kernel_rfl) rfl ?_;have hne:=eq_false (show¬p=H.n by omega);have hq:=Tg.Un.pre_eq s t;generalize Tg.Un.pre s t=b at*;simp [hg,hne,le_refl.new,hq]
theorem CN {v:Value} {xs:List (List UInt8)} (hr:dW H v xs) (hl:xs.length<=1000) (hg:H.get p=some ⟨[str s],9,true⟩) (hp:p<H.n): ∃i:Int,LC Tryz.prog EJ 134 [v,.func (.func 94) #[] #[ptr p 0]] H=some (.int .i64 i,H)/\decide (0<=i)=xs.any (Tg.Un.pre s):=by
 obtain⟨i,hi⟩: ∃i:Int,i=Tg.Un.idx (Tg.Un.pre s) xs 0:=⟨_,rfl⟩
 refine⟨i,?_,?_⟩
 ·refine ag rfl Tryz.func134 rfl (Nat.le_of_ble_eq_true rfl) (by decide) (by kernel_rfl) rfl ?_;have hlen:=fun H':LH=>hr.len (H':=H');simp [hlen];refine aK (fun(j:Nat) fr' H'=>fr' 0=v/\fr' 1=.func (.func 94) #[] #[ptr p 0]/\fr' 7=.int .i64 xs.length/\fr' 8=.int .i64 j/\j<=xs.length/\i=Tg.Un.idx (Tg.Un.pre s) (xs.drop j) j/\H'=H) (fun j=>xs.length-j) 0 ⟨by simp,by simp,by simp,by simp,Nat.zero_le _,hi,rfl⟩ ?_;rintro j fr' H' ⟨h0,h1,h7,h8,hj,hc,rfl⟩ ih;by_cases hlt:j<xs.length
  ·have q:=eq_true (show(j:Int)<(xs.length:Int) by omega);have hw:IntKind.i64.wrap ((j:Int)+1)=((j+1:Nat):Int):=by rw [wrapI (by omega) (by omega)];omega
   obtain⟨k2,o,g1,g2,g3⟩:=hr.at hlt;have g4:=g3 H' rfl;have ho:=fun t=>CM (H:=H') (p:=p) (s:=s) (t:=t) hg hp;rw [List.drop_eq_getElem_cons hlt]at hc;generalize xs[j]=a at*;unfold Tg.Un.idx at hc;have ho:=ho a;cases hf:Tg.Un.pre s a with
   |true=>
    rw [hf]at ho;rw [if_pos hf]at hc;subst hc;simp [h0,h1,h7,h8,q,g1,g4,ho]
   |false=>
    rw [hf]at ho;rw [if_neg (by simp [hf])]at hc;simp [h0,h1,h7,h8,q,g1,g4,ho];refine ih (j+1) _ _ (by omega) ⟨?_,?_,?_,?_,by omega,hc,rfl⟩
    all_goals simp [h0,h1,h7,hw]
  ·have q:=eq_false (show¬(j:Int)<(xs.length:Int) by omega);rw [List.drop_of_length_le (by omega)]at hc;have hc:i= -1:=hc;subst hc;simp [h0,h1,h7,h8,q]
 ·have:=Tg.Un.idx_any (Tg.Un.pre s) xs 0;rw [<-hi]at this;exact this
theorem breaks_k:LC Tryz.prog EJ 67 [str s] H=some (.bool (Tg.Ob.breakP s),H):=by
 refine ag rfl Tryz.func67 rfl (Nat.le_of_ble_eq_true rfl) (by decide) (by kernel_rfl) rfl ?_;have hm:Tg.Ob.breakL.map str= [str [41,93,125,39],str [123,125,38,38],str [102,111,114,40,59,59,41,59]]:=rfl;have hr:dW ((H.new ⟨[str s],9,true⟩).new ⟨Tg.Ob.breakL.map str,9,true⟩) (sl (H.n+1) 3 3) Tg.Ob.breakL:=dW.of (k:=H.n+1) (c:=3) (rest:= []) (by rw [List.append_nil];exact ak (H:=H.new ⟨[str s],9,true⟩)) (by simp only [aL];omega);rw [hm]at hr;obtain⟨i,e1,e2⟩:=CN (p:=H.n) (s:=s) hr (by decide) (by rw [aa (by simp),ak]) (by simp only [aL];omega)
 have e3:LC Tryz.prog EJ 93 [sl (H.n+1) 3 3,.func (.func 94) #[] #[ptr H.n 0]] ((H.new ⟨[str s],9,true⟩).new ⟨[str [41,93,125,39],str [123,125,38,38],str [102,111,114,40,59,59,41,59]],9,true⟩)=some (.bool (Tg.Ob.breakP s),(H.new ⟨[str s],9,true⟩).new ⟨[str [41,93,125,39],str [123,125,38,38],str [102,111,114,40,59,59,41,59]],9,true⟩):=by
  refine ag rfl Tryz.func93 rfl (Nat.le_of_ble_eq_true rfl) (by decide) (by kernel_rfl) (by simp) ?_;have e4:Tg.Ob.breakP s=decide (0<=i):=e2.symm;rw [e4];simp [e1]
 generalize Tg.Ob.breakP s=b at*;simp [Q_,cR,e3]
end
end Go.Proofs.YtbeoilidocfofaaGreatDoor.Mi
namespace Tg.Ob
def wOpen:List UInt8:= [111,112,101,110]
def wNever:List UInt8:= [110,101,118,101,114]
def wFree:List UInt8:= [102,114,101,101]
def wPartial:List UInt8:= [112,97,114,116,105,97,108]
def headP (a1 a2:Bool) (st:Int) (l:List Tg.Hd.Hdr):Int×List UInt8:=
 if(a1&&a2)=false then(1,wOpen)
 else if((Tg.Mi.typeP l).isSome&&isNever ((Tg.Mi.typeP l).getD Tg.Mi.noM).t ((Tg.Mi.typeP l).getD Tg.Mi.noM).s)=true/\(Tg.Mi.noP l=true\/st=206)then(2,wNever)
 else if guardP (Tg.Mi.typeP l).isSome ((Tg.Mi.typeP l).getD Tg.Mi.noM).t ((Tg.Mi.typeP l).getD Tg.Mi.noM).s=false then(1,wFree)
 else if st=206 then(2,wPartial)
 else if Tg.Mi.noP l=true then(2,wNosniff)
 else(0,[])
end Tg.Ob
namespace Go.Proofs.YtbeoilidocfofaaGreatDoor.Sn
open Go.Lg Go.Tg
section
variable {H H':LH} {N:Nat} {s t u:List UInt8} {v w:Value} {l:List Tg.Hd.Hdr} {a1 a2:Bool} {me st:Int}
theorem gS {x:Int} {r:List UInt8} :bG Tryz.prog 38 [.int .i64 0,str [],.int .i64 0,.bool false] [(0,.int .i64 x),(1,str r)]=some [.int .i64 x,str r,.int .i64 0,.bool false]:=by
 rw [aB (o:=0) (n:=1) (g:=false) (by simp) rfl (by simp) (by simp),aB (o:=1) (n:=1) (g:=false) (by simp) rfl (by simp) (by simp)];simp
theorem CO:LC Tryz.prog EJ 34 [sZ u a1 a2 me] H=some (.bool (a1&&a2),H):=by
 have h1: ∀H:LH,LC Tryz.prog EJ 37 [sZ u a1 a2 me] H=some (.bool (a1&&a2),H):=fun H=>by
  refine ag rfl Tryz.func37 rfl (Nat.le_of_ble_eq_true rfl) (by decide) (by kernel_rfl) rfl ?_;cases a1<;>simp
 refine ag rfl Tryz.func34 rfl (Nat.le_of_ble_eq_true rfl) (by decide) (by kernel_rfl) rfl ?_;generalize (a1&&a2)=b at*;simp [h1]
theorem K9 (hr:bT H v l) (hs:Tg.Mi.SmH l) (ht:cJ H) (hc:aC v=true):LC Tryz.prog EJ 24 [sZ u a1 a2 me,iV st v] H=some (jv (Tg.Ob.headP a1 a2 st l).1 (Tg.Ob.headP a1 a2 st l).2 0 false,H):=by
 refine ag rfl Tryz.func24 rfl (Nat.le_of_ble_eq_true rfl) (by decide) (by kernel_rfl) rfl ?_;obtain⟨H1,hH1⟩: ∃H1,H1=((H.new ⟨[str u,.bool a1,.bool a2,.int .i64 me],25,true⟩).new ⟨[.int .i64 st,v],28,true⟩).new ⟨[.int .i64 0,str [],.int .i64 0,.bool false],38,true⟩:=⟨_,rfl⟩
 have le1:H.le H1:=by rw [hH1];exact le_refl.new.new.new
 have n1:H1.n=H.n+1+1+1:=by rw [hH1];rfl
 have g1:H1.get H.n=some ⟨[str u,.bool a1,.bool a2,.int .i64 me],25,true⟩:=by rw [hH1,aa (by simp;omega),aa (by simp),ak]
 have k1:H1.get (H.n+1)=some ⟨[.int .i64 st,v],28,true⟩:=by rw [hH1,aa (by simp)];exact ak
 have j1:H1.get (H.n+1+1)=some ⟨[.int .i64 0,str [],.int .i64 0,.bool false],38,true⟩:=by rw [hH1];exact ak
 obtain⟨r2,H2,e2,le2,⟨w,rfl,hw⟩,bs2⟩:=jV (hr.keep le1.1 le1.2) hs;have hcw:=hw.cell;obtain⟨pa,pl,pc,hsw⟩:=hw.slice;have hbd:=Tg.Mi.typeP_bd hs eN;obtain⟨H3,hH3⟩: ∃H3,H3=H2.new ⟨[str ((Tg.Mi.typeP l).getD Tg.Mi.noM).t,str ((Tg.Mi.typeP l).getD Tg.Mi.noM).s,w,.bool (Tg.Mi.typeP l).isSome,.bool (Tg.Mi.noP l),.bool (Tg.Sn.bug (Tg.Mi.rawP l))],72,true⟩:=⟨_,rfl⟩
 have le3:H2.le H3:=by rw [hH3];exact le_refl.new
 have g3:=(le3.2 H.n (by have:=le2.1;omega)).trans ((le2.2 H.n (by omega)).trans g1);have k3:=(le3.2 (H.n+1) (by have:=le2.1;omega)).trans ((le2.2 (H.n+1) (by omega)).trans k1);have j3:=(le3.2 (H.n+1+1) (by have:=le2.1;omega)).trans ((le2.2 (H.n+1+1) (by omega)).trans j1);have s3:H3.get H2.n=some ⟨[str ((Tg.Mi.typeP l).getD Tg.Mi.noM).t,str ((Tg.Mi.typeP l).getD Tg.Mi.noM).s,w,.bool (Tg.Mi.typeP l).isSome,.bool (Tg.Mi.noP l),.bool (Tg.Sn.bug (Tg.Mi.rawP l))],72,true⟩:=by rw [hH3];exact ak
 have hle:=(le1.trans le2).trans le3;have ht3:cJ H3:=(bQ ht ((show Bs H H1 from by rw [hH1];exact⟨by simp,by simp⟩).trans (bs2.trans (show Bs H2 H3 from by rw [hH3];exact⟨by simp,by simp⟩))))
 have e4:=fun H:LH=>CO (H:=H) (u:=u) (a1:=a1) (a2:=a2) (me:=me);have e5:=fun H:LH=>CF (H:=H) (st:=st) hc;have e6:=s6 (H:=H3) (s:=((Tg.Mi.typeP l).getD Tg.Mi.noM).t) (t:=((Tg.Mi.typeP l).getD Tg.Mi.noM).s) (pa:=pa) (pl:=pl) (pc:=pc) (by have:=hbd.1;have:=hbd.2.1;omega) ht3;have e7:=CL (H:=H3) (s:=((Tg.Mi.typeP l).getD Tg.Mi.noM).t) (t:=((Tg.Mi.typeP l).getD Tg.Mi.noM).s) (pa:=pa) (pl:=pl) (pc:=pc) (h:=(Tg.Mi.typeP l).isSome) (n:=Tg.Mi.noP l) (g:=Tg.Sn.bug (Tg.Mi.rawP l)) (by have:=hbd.1;have:=hbd.2.1;omega) ht3;rw [<-hsw]at e6 e7;unfold Tg.Ob.headP;clear hbd hsw hw;generalize Tg.Ob.isNever ((Tg.Mi.typeP l).getD Tg.Mi.noM).t ((Tg.Mi.typeP l).getD Tg.Mi.noM).s=nv at*;generalize Tg.Ob.guardP (Tg.Mi.typeP l).isSome ((Tg.Mi.typeP l).getD Tg.Mi.noM).t ((Tg.Mi.typeP l).getD Tg.Mi.noM).s=gd at*;generalize ((Tg.Mi.typeP l).getD Tg.Mi.noM)=m at*;generalize (Tg.Mi.typeP l).isSome=has at*;generalize Tg.Mi.noP l=no at*;generalize Tg.Sn.bug (Tg.Mi.rawP l)=bg at*;have hset:H.le (H3.set (H.n+1+1) ⟨[.int .i64 0,str [],.int .i64 0,.bool false],38,true⟩):=hle.set (by omega);cases hab:(a1&&a2)with
 |false=>
  rw [hab]at e4;simp [hc,<-hH1,g1,k1,e2,<-hH3,hcw,g3,k3,j3,s3,e4,e5,gS,Tg.Ob.wOpen];exact hle.set (by omega)
 |true=>
  rw [hab]at e4;by_cases h2:st=206
  ·have h2:=eq_true h2;simp only [h2,decide_true]at e5;cases has<;>cases nv<;>cases gd<;>simp [hc,<-hH1,g1,k1,e2,<-hH3,hcw,g3,k3,j3,s3,e4,e5,e6,e7,h2,gS,Tg.Ob.wNever,Tg.Ob.wFree,Tg.Ob.wPartial]
   all_goals first|exact hle.set (by omega)|(cases no<;>simp [hc,<-hH1,g1,k1,e2,<-hH3,hcw,g3,k3,j3,s3,e4,e5,e6,e7,h2,gS,Tg.Ob.wNever,Tg.Ob.wFree,Tg.Ob.wPartial]<;>exact hle.set (by omega))
  ·have h2:=eq_false h2;simp only [h2,decide_false]at e5;cases has<;>cases nv<;>cases gd<;>cases no<;>simp [hc,<-hH1,g1,k1,e2,<-hH3,hcw,g3,k3,j3,s3,e4,e5,e6,e7,h2,gS,Tg.Ob.wNever,Tg.Ob.wFree,Tg.Ob.wPartial,Tg.Ob.wNosniff]
   all_goals exact hle.set (by omega)
end
section
variable {H H':LH} {N:Nat} {s t u:List UInt8} {v w:Value} {l:List Tg.Hd.Hdr} {a1 a2 h n g b:Bool} {me st:Int} {pa:Option Addr} {pl pc:Nat}
theorem CP {f:FuncId} (hf: ∀H:LH,cJ H->LC Tryz.prog EJ f [uS s t (.slice pa pl pc)] H=some (.bool b,H)) (ht:cJ H):LC Tryz.prog EJ 39 [svp s t (.slice pa pl pc) h n g,.func (.func f) #[] #[]] H=some (.bool (h&&b),H):=by
 refine ag rfl Tryz.func39 rfl (Nat.le_of_ble_eq_true rfl) (by decide) (by kernel_rfl) rfl ?_;have h1:=hf (H.new ⟨[str s,str t,.slice pa pl pc,.bool h,.bool n,.bool g],72,true⟩) (show cJ (H.new _) from ht);cases h<;>cases b<;>simp [h1]
theorem yh {x:Int} :LC Tryz.prog EJ 38 [.int .i64 x,str s] H=some (jv x s 0 false,H):=by
 refine ag rfl Tryz.func38 rfl (Nat.le_of_ble_eq_true rfl) (by decide) (by kernel_rfl) rfl ?_;simp [gS]
theorem Pk:LC Tryz.prog EJ 37 [sZ u a1 a2 me] H=some (.bool (a1&&a2),H):=by
 refine ag rfl Tryz.func37 rfl (Nat.le_of_ble_eq_true rfl) (by decide) (by kernel_rfl) rfl ?_;cases a1<;>simp
end
end Go.Proofs.YtbeoilidocfofaaGreatDoor.Sn
namespace Tg.Cl
def crName:List UInt8:= [67,111,110,116,101,110,116,45,82,97,110,103,101]
def partOf (l:List Tg.Hd.Hdr):(Int×Int×Int)×Bool:=match Tg.Hd.getP crName l with
 | [x]=>((contR x).1,decide ((contR x).2=0))
 |_=>((0,0,0),false)
def firstP (l:List Tg.Hd.Hdr):Bool:=(partOf l).2&&decide ((partOf l).1.1=0)
def wPlain:List UInt8:= [116,101,120,116,47,112,108,97,105,110]
def wOpen:List UInt8:= [111,112,101,110]
def wSafe:List UInt8:= [115,97,102,101]
def wNever:List UInt8:= [110,101,118,101,114]
def wPartial:List UInt8:= [112,97,114,116,105,97,108]
def wNosniff:List UInt8:= [110,111,115,110,105,102,102]
def wValid:List UInt8:= [118,97,108,105,100,97,116,101,100]
def wRange:List UInt8:= [114,97,110,103,101]
def mimeOf (l:List Tg.Hd.Hdr):Tg.Mi.Mim:=(Tg.Mi.typeP l).getD Tg.Mi.noM
def hasT (l:List Tg.Hd.Hdr):Bool:=(Tg.Mi.typeP l).isSome
def headP (a1 a2:Bool) (me st:Int) (known:Bool) (l:List Tg.Hd.Hdr):Int×List UInt8:=
 if(a1&&a2)=false then(1,wOpen)
 else if(hasT l&&Tg.Ob.isSafe (mimeOf l).t (mimeOf l).s)=true then(1,wSafe)
 else if(hasT l&&Tg.Ob.isNever (mimeOf l).t (mimeOf l).s)=true then(2,wNever)
 else if st=206/\(hasT l&&Tg.Ob.isListed (mimeOf l).t (mimeOf l).s)=true then(2,wPartial)
 else if Tg.Mi.noP l=true/\((hasT l&&Tg.Ob.isListed (mimeOf l).t (mimeOf l).s)=true\/(hasT l&&decide ((mimeOf l).t++47::(mimeOf l).s=wPlain))=true)then(2,wNosniff)
 else if me=2/\known=true then(1,wValid)
 else if st=206/\firstP l=false then(2,wRange)
 else(0,[])
end Tg.Cl
namespace Go.Proofs.YtbeoilidocfofaaGreatDoor.Sn
open Go.Lg Go.Tg
section
variable {H H':LH} {N:Nat} {s t u:List UInt8} {v w:Value} {l:List Tg.Hd.Hdr} {a1 a2 h n g kn:Bool} {me st:Int} {pa:Option Addr} {pl pc:Nat}
abbrev pv3 (x:Int×Int×Int):Value:=.agg #[.int .i64 x.1,.int .i64 x.2.1,.int .i64 x.2.2]
theorem yi (hs:s.length<=1000000):LC Tryz.prog EJ 92 [str s] H=some (.tuple #[pv3 (Tg.Cl.contR s).1,.int .i64 (Tg.Cl.contR s).2],H):=dj (s:=gP) rfl (by
 unfold gP str;dsimp only;rw [if_pos (by rw [cN];exact hs)])
theorem K_ (hr:bT H v l) (hs:Tg.Mi.SmH l):LC Tryz.prog EJ 65 [v] H=some (.tuple #[pv3 (Tg.Cl.partOf l).1,.bool (Tg.Cl.partOf l).2],H):=by
 refine ag rfl Tryz.func65 rfl (Nat.le_of_ble_eq_true rfl) (by decide) (by kernel_rfl) rfl ?_;have hc:=aV hr;obtain⟨H1,hH1⟩: ∃H1,H1=H.new ⟨[.int .i64 0,.int .i64 0,.int .i64 0],104,true⟩:=⟨_,rfl⟩
 have le1:H.le H1:=by rw [hH1];exact le_refl.new
 have n1:H1.n=H.n+1:=by rw [hH1];rfl
 have p1:H1.get H.n=some ⟨[.int .i64 0,.int .i64 0,.int .i64 0],104,true⟩:=by rw [hH1];exact ak
 obtain⟨v2,H2,e2,o2⟩:=uI (name:=Tg.Cl.crName) (hr.keep le1.1 le1.2) (by have:=hs.1;omega) (fun h hh=>by have:=(hs.2 h hh).1;omega);have e2:LC Tryz.prog EJ 84 [str [67,111,110,116,101,110,116,45,82,97,110,103,101],v] H1=some (v2,H2):=up rfl e2;have le2:H1.le H2:=⟨o2.le,o2.old⟩
 have ho:=o2.row
 have hmem: ∀x∈Tg.Hd.getP Tg.Cl.crName l,x.length<=1000:=fun x hx=>by
  obtain⟨a,ha,rfl⟩:=Tg.Mi.getP_mem hx;exact Nat.le_trans (hs.2 a ha).2 (by decide)
 have hgl:=Tg.Hd.getP_len Tg.Cl.crName l;have hl8:=hs.1;have p2:=(le2.2 H.n (by omega)).trans p1;have hle:=le1.trans le2
 have sm:H2.set H.n ⟨[.int .i64 0,.int .i64 0,.int .i64 0],104,true⟩=H2:=by
  unfold LH.set;congr 1;funext k;by_cases h:k=H.n
  ·subst h;simp [p2]
  ·simp [h]
 have hcv:aC v2=true:=bA.cell ho;unfold Tg.Cl.partOf;generalize Tg.Hd.getP Tg.Cl.crName l=xs at*;have hlen:=fun H':LH=>gn.len ho (H':=H');rcases xs with _|⟨x,_|⟨y,zs⟩⟩
 ·simp at hlen;simp [hc,<-hH1,e2,hcv,hlen,p2,sm];exact hle
 ·obtain⟨k,o,g1,g2,g3⟩:=gn.at ho (i:=0) (by simp);have g4:=g3 H2 rfl;have g1: ∀H':LH,iu Tryz.prog 116 v2 (.int .i64 0) H'=some (ptr k o,H'):=g1;simp only [List.getElem_cons_zero]at g4;have e3:=fun H:LH=>yi (H:=H) (s:=x) (Nat.le_trans (hmem x (by simp)) (by decide));simp at hlen;simp only;generalize Tg.Cl.contR x=R at*;obtain⟨⟨f,t,a⟩,e⟩:=R;simp only at e3⊢;obtain⟨H3,hH3⟩: ∃H3,H3=H2.new ⟨[.int .i64 f,.int .i64 t,.int .i64 a],104,true⟩:=⟨_,rfl⟩
  have le3:H2.le H3:=by rw [hH3];exact le_refl.new
  have q3:H3.get H2.n=some ⟨[.int .i64 f,.int .i64 t,.int .i64 a],104,true⟩:=by rw [hH3];exact ak
  have p3:=(le3.2 H.n (by have:=le2.1;omega)).trans p2;have hle3:=hle.trans le3;simp [hc,<-hH1,e2,hcv,hlen,g1,g4,e3,<-hH3,q3,p3]
  first|exact hle3|exact hle3.set (Nat.le_refl _)
 ·have q:=eq_false (show¬((zs.length:Int)+1+1=1) by omega);simp at hlen;simp [hc,<-hH1,e2,hcv,hlen,q,p2,sm];exact hle
theorem CR {x:Int×Int×Int} :LC Tryz.prog EJ 66 [pv3 x] H=some (.bool (decide (x.1=0)),H):=by
 refine ag rfl Tryz.func66 rfl (Nat.le_of_ble_eq_true rfl) (by decide) (by kernel_rfl) rfl ?_;obtain⟨f,t,a⟩:=x;simp
theorem s7 (hr:bT H v l) (hs:Tg.Mi.SmH l):LC Tryz.prog EJ 44 [iV st v] H=some (.bool (Tg.Cl.firstP l),H):=by
 refine ag rfl Tryz.func44 rfl (Nat.le_of_ble_eq_true rfl) (by decide) (by kernel_rfl) rfl ?_;have hc:=aV hr;have e1:=K_ (H:=H.new ⟨[.int .i64 st,v],28,true⟩) (hr.keep (Nat.le_succ _) (fun k hk=>aa (by omega))) hs;unfold Tg.Cl.firstP;generalize Tg.Cl.partOf l=R at*;obtain⟨⟨f,t,a⟩,ok⟩:=R;have e2:=fun H:LH=>CR (H:=H) (x:=(f,t,a));simp only at e1 e2⊢;cases ok<;>simp [hc,e1,e2]
theorem wj (hc:aC v=true):LC Tryz.prog EJ 41 [iV st v] H=some (.bool (decide (st=206)),H):=by
 have h1: ∀H:LH,LC Tryz.prog EJ 63 [.int .i64 st] H=some (.bool (decide (st=206)),H):=fun H=>by
  refine ag rfl Tryz.func63 rfl (Nat.le_of_ble_eq_true rfl) (by decide) (by kernel_rfl) rfl ?_;simp
 refine ag rfl Tryz.func41 rfl (Nat.le_of_ble_eq_true rfl) (by decide) (by kernel_rfl) rfl ?_;simp [hc,h1]
theorem CS (hl:s.length+t.length<=1000000):LC Tryz.prog EJ 43 [svp s t (.slice pa pl pc) h n g] H=some (.bool (h&&decide (s++47::t=Tg.Cl.wPlain)),H):=by
 refine ag rfl Tryz.func43 rfl (Nat.le_of_ble_eq_true rfl) (by decide) (by kernel_rfl) rfl ?_;have h1:=fun H:LH=>nC (H:=H) (s:=s) (t:=t) (pa:=pa) (pl:=pl) (pc:=pc) hl;generalize s++47::t=x at*;unfold Tg.Cl.wPlain;cases h<;>simp [h1]
set_option maxHeartbeats 4000000 in
theorem Gc (hr:bT H v l) (hs:Tg.Mi.SmH l) (ht:cJ H):LC Tryz.prog EJ 25 [sZ u a1 a2 me,iV st v,.bool kn] H=some (jv (Tg.Cl.headP a1 a2 me st kn l).1 (Tg.Cl.headP a1 a2 me st kn l).2 0 false,H):=by
 refine ag rfl Tryz.func25 rfl (Nat.le_of_ble_eq_true rfl) (by decide) (by kernel_rfl) rfl ?_;have hc:=aV hr;obtain⟨H1,hH1⟩: ∃H1,H1=((H.new ⟨[str u,.bool a1,.bool a2,.int .i64 me],25,true⟩).new ⟨[.int .i64 st,v],28,true⟩).new ⟨[.int .i64 0,str [],.int .i64 0,.bool false],38,true⟩:=⟨_,rfl⟩
 have le1:H.le H1:=by rw [hH1];exact le_refl.new.new.new
 have n1:H1.n=H.n+1+1+1:=by rw [hH1];rfl
 have g1:H1.get H.n=some ⟨[str u,.bool a1,.bool a2,.int .i64 me],25,true⟩:=by rw [hH1,aa (by simp;omega),aa (by simp),ak]
 have k1:H1.get (H.n+1)=some ⟨[.int .i64 st,v],28,true⟩:=by rw [hH1,aa (by simp)];exact ak
 have j1:H1.get (H.n+1+1)=some ⟨[.int .i64 0,str [],.int .i64 0,.bool false],38,true⟩:=by rw [hH1];exact ak
 obtain⟨r2,H2,e2,le2,⟨w,rfl,hw⟩,bs2⟩:=jV (hr.keep le1.1 le1.2) hs;have hcw:=hw.cell;obtain⟨pa,pl,pc,hsw⟩:=hw.slice;have hbd:=Tg.Mi.typeP_bd hs eN;obtain⟨H3,hH3⟩: ∃H3,H3=H2.new ⟨[str ((Tg.Mi.typeP l).getD Tg.Mi.noM).t,str ((Tg.Mi.typeP l).getD Tg.Mi.noM).s,w,.bool (Tg.Mi.typeP l).isSome,.bool (Tg.Mi.noP l),.bool (Tg.Sn.bug (Tg.Mi.rawP l))],72,true⟩:=⟨_,rfl⟩
 have le3:H2.le H3:=by rw [hH3];exact le_refl.new
 have g3:=(le3.2 H.n (by have:=le2.1;omega)).trans ((le2.2 H.n (by omega)).trans g1);have k3:=(le3.2 (H.n+1) (by have:=le2.1;omega)).trans ((le2.2 (H.n+1) (by omega)).trans k1);have j3:=(le3.2 (H.n+1+1) (by have:=le2.1;omega)).trans ((le2.2 (H.n+1+1) (by omega)).trans j1);have s3:H3.get H2.n=some ⟨[str ((Tg.Mi.typeP l).getD Tg.Mi.noM).t,str ((Tg.Mi.typeP l).getD Tg.Mi.noM).s,w,.bool (Tg.Mi.typeP l).isSome,.bool (Tg.Mi.noP l),.bool (Tg.Sn.bug (Tg.Mi.rawP l))],72,true⟩:=by rw [hH3];exact ak
 have hle:=(le1.trans le2).trans le3;have ht3:cJ H3:=(bQ ht ((show Bs H H1 from by rw [hH1];exact⟨by simp,by simp⟩).trans (bs2.trans (show Bs H2 H3 from by rw [hH3];exact⟨by simp,by simp⟩))))
 have e4:=fun H:LH=>Pk (H:=H) (u:=u) (a1:=a1) (a2:=a2) (me:=me);have f1:=fun(x:Int) (y:List UInt8) (H:LH)=>yh (H:=H) (x:=x) (s:=y);have f2:=fun H:LH=>wj (H:=H) (st:=st) hc;have f3:=s7 (H:=H3) (st:=st) (hr.keep hle.1 hle.2) hs;have hb1:((Tg.Mi.typeP l).getD Tg.Mi.noM).t.length+((Tg.Mi.typeP l).getD Tg.Mi.noM).s.length<=1000000:=by have:=hbd.1;have:=hbd.2.1;omega
 have e5:=CP (H:=H3) (f:=40) (s:=((Tg.Mi.typeP l).getD Tg.Mi.noM).t) (t:=((Tg.Mi.typeP l).getD Tg.Mi.noM).s) (pa:=pa) (pl:=pl) (pc:=pc) (h:=(Tg.Mi.typeP l).isSome) (n:=Tg.Mi.noP l) (g:=Tg.Sn.bug (Tg.Mi.rawP l)) (fun H ht=>Gb hb1 ht) ht3;have e6:=CP (H:=H3) (f:=35) (s:=((Tg.Mi.typeP l).getD Tg.Mi.noM).t) (t:=((Tg.Mi.typeP l).getD Tg.Mi.noM).s) (pa:=pa) (pl:=pl) (pc:=pc) (h:=(Tg.Mi.typeP l).isSome) (n:=Tg.Mi.noP l) (g:=Tg.Sn.bug (Tg.Mi.rawP l)) (fun H ht=>s6 hb1 ht) ht3;have e7:=CP (H:=H3) (f:=42) (s:=((Tg.Mi.typeP l).getD Tg.Mi.noM).t) (t:=((Tg.Mi.typeP l).getD Tg.Mi.noM).s) (pa:=pa) (pl:=pl) (pc:=pc) (h:=(Tg.Mi.typeP l).isSome) (n:=Tg.Mi.noP l) (g:=Tg.Sn.bug (Tg.Mi.rawP l)) (fun H ht=>yg hb1 ht) ht3;have e8:=CS (H:=H3) (s:=((Tg.Mi.typeP l).getD Tg.Mi.noM).t) (t:=((Tg.Mi.typeP l).getD Tg.Mi.noM).s) (pa:=pa) (pl:=pl) (pc:=pc) (h:=(Tg.Mi.typeP l).isSome) (n:=Tg.Mi.noP l) (g:=Tg.Sn.bug (Tg.Mi.rawP l)) hb1;rw [<-hsw]at e5 e6 e7 e8;unfold Tg.Cl.headP Tg.Cl.hasT Tg.Cl.mimeOf;clear hbd hsw hw hb1;generalize Tg.Ob.isSafe ((Tg.Mi.typeP l).getD Tg.Mi.noM).t ((Tg.Mi.typeP l).getD Tg.Mi.noM).s=sf at*;generalize Tg.Ob.isNever ((Tg.Mi.typeP l).getD Tg.Mi.noM).t ((Tg.Mi.typeP l).getD Tg.Mi.noM).s=nv at*;generalize Tg.Ob.isListed ((Tg.Mi.typeP l).getD Tg.Mi.noM).t ((Tg.Mi.typeP l).getD Tg.Mi.noM).s=li at*;generalize decide (((Tg.Mi.typeP l).getD Tg.Mi.noM).t++47::((Tg.Mi.typeP l).getD Tg.Mi.noM).s=Tg.Cl.wPlain)=pn at*;generalize ((Tg.Mi.typeP l).getD Tg.Mi.noM)=m at*;generalize (Tg.Mi.typeP l).isSome=has at*;generalize Tg.Mi.noP l=no at*;generalize Tg.Sn.bug (Tg.Mi.rawP l)=bg at*;generalize Tg.Cl.firstP l=fs at*;generalize (has&&sf)=x1 at*;generalize (has&&nv)=x2 at*;generalize (has&&li)=x3 at*;generalize (has&&pn)=x4 at*;have hset: ∀x,H.le (H3.set (H.n+1+1) x):=fun x=>hle.set (by omega);cases hab:(a1&&a2)with
 |false=>
  rw [hab]at e4;simp [hc,<-hH1,g1,k1,e2,<-hH3,hcw,g3,k3,j3,s3,e4,f1,Tg.Cl.wOpen,hset,hle]
 |true=>
  rw [hab]at e4;cases x1 with
  |true=>simp [hc,<-hH1,g1,k1,e2,<-hH3,hcw,g3,k3,j3,s3,e4,f1,e5,Tg.Cl.wSafe,hset,hle]
  |false=>
   cases x2 with
   |true=>simp [hc,<-hH1,g1,k1,e2,<-hH3,hcw,g3,k3,j3,s3,e4,f1,e5,e6,Tg.Cl.wNever,hset,hle]
   |false=>
    by_cases h2:st=206
    ·have h2:=eq_true h2;simp only [h2,decide_true]at f2;cases x3 with
     |true=>simp [hc,<-hH1,g1,k1,e2,<-hH3,hcw,g3,k3,j3,s3,e4,f1,e5,e6,f2,e7,h2,Tg.Cl.wPartial,hset,hle]
     |false=>
      cases no<;>cases x4<;>cases kn<;>cases fs<;>by_cases h3:me=2
      all_goals first|(have h3:=eq_true h3;simp [hc,<-hH1,g1,k1,e2,<-hH3,hcw,g3,k3,j3,s3,e4,f1,e5,e6,f2,f3,e7,e8,h2,h3,Tg.Cl.wNosniff,Tg.Cl.wValid,Tg.Cl.wRange,hset,hle];done)|(have h3:=eq_false h3;simp [hc,<-hH1,g1,k1,e2,<-hH3,hcw,g3,k3,j3,s3,e4,f1,e5,e6,f2,f3,e7,e8,h2,h3,Tg.Cl.wNosniff,Tg.Cl.wValid,Tg.Cl.wRange,hset,hle];done)
    ·have h2:=eq_false h2;simp only [h2,decide_false]at f2;cases no<;>cases x3<;>cases x4<;>cases kn<;>by_cases h3:me=2
     all_goals first|(have h3:=eq_true h3;simp [hc,<-hH1,g1,k1,e2,<-hH3,hcw,g3,k3,j3,s3,e4,f1,e5,e6,f2,f3,e7,e8,h2,h3,Tg.Cl.wNosniff,Tg.Cl.wValid,Tg.Cl.wRange,hset,hle];done)|(have h3:=eq_false h3;simp [hc,<-hH1,g1,k1,e2,<-hH3,hcw,g3,k3,j3,s3,e4,f1,e5,e6,f2,f3,e7,e8,h2,h3,Tg.Cl.wNosniff,Tg.Cl.wValid,Tg.Cl.wRange,hset,hle];done)
end
end Go.Proofs.YtbeoilidocfofaaGreatDoor.Sn
namespace Tg.Ob
def wBreaker:List UInt8:= [98,114,101,97,107,101,114]
def wHtml:List UInt8:= [104,116,109,108]
def wXml:List UInt8:= [120,109,108]
def wJson:List UInt8:= [106,115,111,110]
def wUnconf:List UInt8:= [117,110,99,111,110,102,105,114,109,101,100]
def foundP (j:Bool) (has:Bool) (s t u:List UInt8):List UInt8:=
 if breakP u=true then wBreaker
 else if(ofG has (Tg.Sn.isHtml s t) (s++47::t)&&Tg.Un.html u)=true then wHtml
 else if(ofG has (Tg.Sn.isXml s t) (s++47::t)&&Tg.Un.xml u)=true then wXml
 else if(ofG has (isJson s t) (s++47::t)&&j)=true then wJson
 else []
end Tg.Ob
namespace Go.Proofs.YtbeoilidocfofaaGreatDoor.Sn
open Go.Lg Go.Tg
section
variable {H H':LH} {N:Nat} {s t u:List UInt8} {v w:Value} {l:List Tg.Hd.Hdr} {a1 a2:Bool} {me st:Int} {pa:Option Addr} {pl pc:Nat} {h n g j:Bool}
theorem K' (hs:s.length<=1000000) (hm:dU H):LC Tryz.prog EJ 68 [str s] H=some (.bool (Tg.Un.html s),H):=up rfl (E' hs hm)
theorem Pl (hs:s.length<=1000000):LC Tryz.prog EJ 69 [str s] H=some (.bool (Tg.Un.xml s),H):=up rfl (Kx hs)
theorem yj:LC Tryz.prog EJ 67 [str s] H=some (.bool (Tg.Ob.breakP s),H):=up rfl Mi.breaks_k
theorem Gd {b:LB} (hm:dU H):dU (H.new b):=hm
theorem yk (hu:u.length<=1000000):LC Tryz.prog EJ 70 [str u] H=some (.bool (cX H.base H.ng u),H):=dj (s:=gO) rfl (by
 unfold gO str;dsimp only;rw [if_pos (by rw [cN];exact hu)])
theorem Ge (hj:Tg.Ob.isJson s t=true\/(h&&decide (s++47::t=Tg.Ob.plainE))=true->LC Tryz.prog EJ 70 [str u] (H.new ⟨[str s,str t,.slice pa pl pc,.bool h,.bool n,.bool g],72,true⟩)=some (.bool j,H.new ⟨[str s,str t,.slice pa pl pc,.bool h,.bool n,.bool g],72,true⟩)) (hl:s.length+t.length<=1000000) (hu:u.length<=1000000) (ht:cJ H) (hm:dU H):LC Tryz.prog EJ 46 [svp s t (.slice pa pl pc) h n g,str u] H=some (str (Tg.Ob.foundP j h s t u),H):=by
 refine ag rfl Tryz.func46 rfl (Nat.le_of_ble_eq_true rfl) (by decide) (by kernel_rfl) rfl ?_;have ht1:=qO (b:=⟨[str s,str t,.slice pa pl pc,.bool h,.bool n,.bool g],72,true⟩) ht;have hm1:=Gd (b:=⟨[str s,str t,.slice pa pl pc,.bool h,.bool n,.bool g],72,true⟩) hm;have h0:=fun H:LH=>yj (H:=H) (s:=u);have h1:=o0 (f:=59) (h:=h) (n:=n) (g:=g) (fun H ht=>qJ (H:=H) (s:=s) (t:=t) (pa:=pa) (pl:=pl) (pc:=pc) ht) hl ht1;have h2:=o0 (f:=60) (h:=h) (n:=n) (g:=g) (fun H ht=>uT (H:=H) (s:=s) (t:=t) (pa:=pa) (pl:=pl) (pc:=pc) (by omega) ht) hl ht1;have h3:=o0 (f:=61) (h:=h) (n:=n) (g:=g) (fun H ht=>qN (H:=H) (s:=s) (t:=t) (pa:=pa) (pl:=pl) (pc:=pc) (by omega) ht) hl ht1;have h4:=K' (s:=u) hu hm1;have h5:=fun H:LH=>Pl (H:=H) (s:=u) hu
 have hj2:Tg.Ob.ofG h (Tg.Ob.isJson s t) (s++47::t)=true->LC Tryz.prog EJ 70 [str u] (H.new ⟨[str s,str t,.slice pa pl pc,.bool h,.bool n,.bool g],72,true⟩)=some (.bool j,H.new ⟨[str s,str t,.slice pa pl pc,.bool h,.bool n,.bool g],72,true⟩):=by
  intro h6;apply hj;unfold Tg.Ob.ofG at h6;rw [Bool.or_eq_true]at h6;rcases h6 with h6|h6
  ·rw [Bool.and_eq_true,Bool.and_eq_true]at h6;exact .inl h6.1.2
  ·exact .inr h6
 unfold Tg.Ob.foundP;clear hj;generalize Tg.Ob.ofG h (Tg.Sn.isHtml s t) (s++47::t)=b1 at*;generalize Tg.Ob.ofG h (Tg.Sn.isXml s t) (s++47::t)=b2 at*;generalize Tg.Ob.ofG h (Tg.Ob.isJson s t) (s++47::t)=b3 at*;generalize Tg.Ob.breakP u=b0 at*;generalize Tg.Un.html u=c1 at*;generalize Tg.Un.xml u=c2 at*;cases b0 with
 |true=>simp [h0,Tg.Ob.wBreaker]
 |false=>
  cases hb1:(b1&&c1)with
  |true=>
   rw [Bool.and_eq_true]at hb1;obtain⟨rfl,rfl⟩:=hb1;simp [h0,h1,h4,Tg.Ob.wHtml]
  |false=>
   cases hb2:(b2&&c2)with
   |true=>
    rw [Bool.and_eq_true]at hb2;obtain⟨rfl,rfl⟩:=hb2;cases b1<;>cases c1<;>first|(cases hb1;done)|simp [h0,h1,h2,h4,h5,Tg.Ob.wXml]
   |false=>
    cases b3 with
    |false=>
     cases b1<;>cases c1<;>first|(cases hb1;done)|(cases b2<;>cases c2<;>first|(cases hb2;done)|simp [h0,h1,h2,h3,h4,h5])
    |true=>
     have h6:=hj2 rfl;cases b1<;>cases c1<;>first|(cases hb1;done)|(cases b2<;>cases c2<;>first|(cases hb2;done)|(cases j<;>simp [h0,h1,h2,h3,h4,h5,h6,Tg.Ob.wJson]))
theorem Gf:LC Tryz.prog EJ 45 [str s] H=some (str (s.take 1445),H):=up rfl qe
def gT (j:Bool) (l:List Tg.Hd.Hdr) (s:List UInt8):Int×List UInt8:=
 if Tg.Ob.foundP j (Tg.Mi.typeP l).isSome ((Tg.Mi.typeP l).getD Tg.Mi.noM).t ((Tg.Mi.typeP l).getD Tg.Mi.noM).s (s.take 1445)= []then(1,Tg.Ob.wUnconf)else(2,Tg.Ob.foundP j (Tg.Mi.typeP l).isSome ((Tg.Mi.typeP l).getD Tg.Mi.noM).t ((Tg.Mi.typeP l).getD Tg.Mi.noM).s (s.take 1445))
theorem nJ {x n:Int} {r:List UInt8} :bG Tryz.prog 38 [.int .i64 0,str [],.int .i64 0,.bool false] [(0,.int .i64 x),(1,str r),(2,.int .i64 n)]=some [.int .i64 x,str r,.int .i64 n,.bool false]:=by
 rw [aB (o:=0) (n:=1) (g:=false) (by simp) rfl (by simp) (by simp),aB (o:=1) (n:=1) (g:=false) (by simp) rfl (by simp) (by simp),aB (o:=2) (n:=1) (g:=false) (by simp) rfl (by simp) (by simp)];simp
theorem Gg (hr:bT H v l) (hs:Tg.Mi.SmH l) (ht:cJ H) (hm:dU H) (hc:aC v=true):LC Tryz.prog EJ 26 [iV st v,str s] H=some (jv (gT (cX H.base H.ng (s.take 1445)) l s).1 (gT (cX H.base H.ng (s.take 1445)) l s).2 (s.take 1445).length false,H):=by
 obtain⟨j,hj⟩: ∃j,j=cX H.base H.ng (s.take 1445):=⟨_,rfl⟩
 rw [<-hj];obtain⟨H1,hH1⟩: ∃H1,H1=(H.new ⟨[.int .i64 st,v],28,true⟩).new ⟨[.int .i64 0,str [],.int .i64 0,.bool false],38,true⟩:=⟨_,rfl⟩
 have le1:H.le H1:=by rw [hH1];exact le_refl.new.new
 have n1:H1.n=H.n+1+1:=by rw [hH1];rfl
 have k1:H1.get H.n=some ⟨[.int .i64 st,v],28,true⟩:=by rw [hH1,aa (by simp),ak]
 have j1:H1.get (H.n+1)=some ⟨[.int .i64 0,str [],.int .i64 0,.bool false],38,true⟩:=by rw [hH1];exact ak
 obtain⟨r2,H2,e2,le2,⟨w,rfl,hw⟩,bs2⟩:=jV (hr.keep le1.1 le1.2) hs;have hcw:=hw.cell;obtain⟨pa,pl,pc,hsw⟩:=hw.slice;have hbd:=Tg.Mi.typeP_bd hs eN;have k2:=(le2.2 H.n (by omega)).trans k1;have j2:=(le2.2 (H.n+1) (by omega)).trans j1;have hle:=le1.trans le2;have bs02:Bs H H2:=(show Bs H H1 from by rw [hH1];exact⟨by simp,by simp⟩).trans bs2;have e4:=fun H:LH=>Gf (H:=H) (s:=s);have ej:=yk (H:=H2.new ⟨[str ((Tg.Mi.typeP l).getD Tg.Mi.noM).t,str ((Tg.Mi.typeP l).getD Tg.Mi.noM).s,.slice pa pl pc,.bool (Tg.Mi.typeP l).isSome,.bool (Tg.Mi.noP l),.bool (Tg.Sn.bug (Tg.Mi.rawP l))],72,true⟩) (u:=s.take 1445) (by rw [List.length_take];omega);rw [show cX (H2.new _).base (H2.new _).ng (s.take 1445)=j from by rw [hj];show cX H2.base H2.ng _=_;rw [bs02.1,bs02.2]]at ej;refine ag rfl Tryz.func26 rfl (Nat.le_of_ble_eq_true rfl) (by decide) (by kernel_rfl) rfl ?_;have e5:=Ge (H:=H2) (n:=Tg.Mi.noP l) (g:=Tg.Sn.bug (Tg.Mi.rawP l)) (pa:=pa) (pl:=pl) (pc:=pc) (j:=j) (fun _=>ej) (by have:=hbd.1;have:=hbd.2.1;omega) (by rw [List.length_take];omega) (bQ ht bs02) (hm.bs bs02);rw [<-hsw]at e5;unfold gT;clear hbd hsw hw ej;generalize Tg.Ob.foundP j (Tg.Mi.typeP l).isSome ((Tg.Mi.typeP l).getD Tg.Mi.noM).t ((Tg.Mi.typeP l).getD Tg.Mi.noM).s (s.take 1445)=rs at*;generalize s.take 1445=u at*;generalize ((Tg.Mi.typeP l).getD Tg.Mi.noM)=m at*;generalize (Tg.Mi.typeP l).isSome=has at*;generalize Tg.Mi.noP l=no at*;generalize Tg.Sn.bug (Tg.Mi.rawP l)=bg at*;by_cases h0:rs= []
 ·subst h0;simp [hc,e4,<-hH1,k1,j1,e2,k2,j2,e5,nJ,Tg.Ob.wUnconf]
  first|exact hle|exact hle.set (by omega)
 ·have h0f:=eq_false h0;rw [if_neg h0];simp [hc,e4,<-hH1,k1,j1,e2,k2,j2,e5,h0f,nJ]
  first|exact hle|exact hle.set (by omega)
end
end Go.Proofs.YtbeoilidocfofaaGreatDoor.Sn
namespace Tg.Cl
open Tg.Ob
structure Cas where
 lg:Bool
 k:Int
 d:Int
 u:List UInt8
 a1:Bool
 a2:Bool
 me:Int
 st:Int
 h:List Tg.Hd.Hdr
 kn:Bool
def Ie:List UInt8:= [112,97,114,116]
def bU (c:Cas):Jud:=if c.lg=true then⟨(Tg.Ob.headP c.a1 c.a2 c.st c.h).1,(Tg.Ob.headP c.a1 c.a2 c.st c.h).2,0,false⟩else⟨(headP c.a1 c.a2 c.me c.st c.kn c.h).1,(headP c.a1 c.a2 c.me c.st c.kn c.h).2,0,false⟩
def Gh (c:Cas) (m:Bool):Bool:=(!decide (c.st=206)||c.kn)||(m&&firstP c.h)
def eE (n:Int) (en:Bool):Bool:=en||decide (1445<=n)
end Tg.Cl
namespace Go.Proofs.YtbeoilidocfofaaGreatDoor.Sn
open Go.Lg Go.Tg Tg.Cl Tg.Ob
def bh (j:Bool) (c:Cas) (s:List UInt8) (en:Bool):Jud:=
 if eE s.length en=false then noJ
 else if c.lg=true then⟨(gT j c.h s).1,(gT j c.h s).2,(s.take 1445).length,false⟩
 else if(ofP c.me c.st c.h s).v=1/\Gh c (ofP c.me c.st c.h s).m=false then⟨2,Ie,(ofP c.me c.st c.h s).n,false⟩
 else ofP c.me c.st c.h s
abbrev casv (c:Cas) (v:Value):Value:=.agg #[.bool c.lg,.int .i64 c.k,.int .i64 c.d,str c.u,.bool c.a1,.bool c.a2,.int .i64 c.me,.int .i64 c.st,v,.bool c.kn]
section
variable {H H':LH} {N:Nat} {s t u:List UInt8} {v w:Value} {c:Cas} {n:Int} {en m:Bool}
theorem yl (hr:bT H v c.h) (hs:Tg.Mi.SmH c.h) (ht:cJ H):LC Tryz.prog EJ 20 [casv c v] H=some (K7 (bU c),H):=by
 refine ag rfl Tryz.func20 rfl (Nat.le_of_ble_eq_true rfl) (by decide) (by kernel_rfl) rfl ?_;have hc:=aV hr;obtain⟨lg,k,d,u,a1,a2,me,st,l,kn⟩:=c;simp only at hr hs;obtain⟨H1,hH1⟩: ∃H1,H1=(H.new ⟨[.bool lg,.int .i64 k,.int .i64 d,str u,.bool a1,.bool a2,.int .i64 me,.int .i64 st,v,.bool kn],30,true⟩).new ⟨[.int .i64 0,str [],.int .i64 0,.bool false],38,true⟩:=⟨_,rfl⟩
 have le1:H.le H1:=by rw [hH1];exact le_refl.new.new
 have n1:H1.n=H.n+1+1:=by rw [hH1];rfl
 have g1:H1.get H.n=some ⟨[.bool lg,.int .i64 k,.int .i64 d,str u,.bool a1,.bool a2,.int .i64 me,.int .i64 st,v,.bool kn],30,true⟩:=by rw [hH1,aa (by simp),ak]
 have j1:H1.get (H.n+1)=some ⟨[.int .i64 0,str [],.int .i64 0,.bool false],38,true⟩:=by rw [hH1];exact ak
 have ht1:cJ H1:=bQ ht (by rw [hH1];exact⟨by simp,by simp⟩);have e1:=K9 (H:=H1) (u:=u) (a1:=a1) (a2:=a2) (me:=me) (st:=st) (hr.keep le1.1 le1.2) hs ht1 hc;have e2:=Gc (H:=H1) (u:=u) (a1:=a1) (a2:=a2) (me:=me) (st:=st) (kn:=kn) (hr.keep le1.1 le1.2) hs ht1;unfold bU;dsimp only;generalize Tg.Ob.headP a1 a2 st l=J1 at*;generalize Tg.Cl.headP a1 a2 me st kn l=J2 at*;cases lg with
 |true=>
  simp [hc,<-hH1,g1,j1,e1]
  first|exact le1|exact le1.set (Nat.le_succ _)
 |false=>
  simp [hc,<-hH1,g1,j1,e2]
  first|exact le1|exact le1.set (Nat.le_succ _)
theorem s8:LC Tryz.prog EJ 22 [.int .i64 n,.bool en] H=some (.bool (eE n en),H):=by
 refine ag rfl Tryz.func22 rfl (Nat.le_of_ble_eq_true rfl) (by decide) (by kernel_rfl) rfl ?_;unfold eE;cases en<;>simp
theorem Gi (hc:aC v=true) {st:Int} :LC Tryz.prog EJ 33 [iV st v] H=some (.bool (decide (st=206)),H):=by
 refine ag rfl Tryz.func33 rfl (Nat.le_of_ble_eq_true rfl) (by decide) (by kernel_rfl) rfl ?_;have h1:=fun H:LH=>wj (H:=H) (st:=st) hc;simp [hc,h1]
theorem CT {st:Int} {l:List Tg.Hd.Hdr} (hr:bT H v l) (hs:Tg.Mi.SmH l):LC Tryz.prog EJ 48 [iV st v] H=some (.bool (firstP l),H):=by
 refine ag rfl Tryz.func48 rfl (Nat.le_of_ble_eq_true rfl) (by decide) (by kernel_rfl) rfl ?_;have hc:=aV hr;have e1:=s7 (H:=H.new ⟨[.int .i64 st,v],28,true⟩) (st:=st) (hr.keep (Nat.le_succ _) (fun k hk=>aa (by omega))) hs;simp [hc,e1]
theorem Pm (hr:bT H v c.h) (hs:Tg.Mi.SmH c.h):LC Tryz.prog EJ 28 [iV c.st v,.bool c.kn,.bool m] H=some (.bool (Gh c m),H):=by
 refine ag rfl Tryz.func28 rfl (Nat.le_of_ble_eq_true rfl) (by decide) (by kernel_rfl) rfl ?_;have hc:=aV hr;obtain⟨lg,k,d,u,a1,a2,me,st,l,kn⟩:=c;simp only at hr hs;have e1:=fun H:LH=>Gi (H:=H) (st:=st) hc;have e2:=CT (H:=H.new ⟨[.int .i64 st,v],28,true⟩) (st:=st) (hr.keep (Nat.le_succ _) (fun k hk=>aa (by omega))) hs;unfold Gh;dsimp only;generalize firstP l=f at*;cases h1:decide (st=206)<;>cases kn<;>cases m<;>simp [hc,e1,e2,h1]
theorem u3 (hr:bT H v c.h) (hs:Tg.Mi.SmH c.h) (ht:cJ H) (hm:dU H):LC Tryz.prog EJ 21 [casv c v,str s,.bool en] H=some (K7 (bh (cX H.base H.ng (s.take 1445)) c s en),H):=by
 obtain⟨j,hj⟩: ∃j,j=cX H.base H.ng (s.take 1445):=⟨_,rfl⟩
 rw [<-hj];refine ag rfl Tryz.func21 rfl (Nat.le_of_ble_eq_true rfl) (by decide) (by kernel_rfl) rfl ?_;have hc:=aV hr;obtain⟨H1,hH1⟩: ∃H1,H1=(H.new ⟨[.bool c.lg,.int .i64 c.k,.int .i64 c.d,str c.u,.bool c.a1,.bool c.a2,.int .i64 c.me,.int .i64 c.st,v,.bool c.kn],30,true⟩).new ⟨[.int .i64 0,str [],.int .i64 0,.bool false],38,true⟩:=⟨_,rfl⟩
 have le1:H.le H1:=by rw [hH1];exact le_refl.new.new
 have n1:H1.n=H.n+1+1:=by rw [hH1];rfl
 have g1:H1.get H.n=some ⟨[.bool c.lg,.int .i64 c.k,.int .i64 c.d,str c.u,.bool c.a1,.bool c.a2,.int .i64 c.me,.int .i64 c.st,v,.bool c.kn],30,true⟩:=by rw [hH1,aa (by simp),ak]
 have j1:H1.get (H.n+1)=some ⟨[.int .i64 0,str [],.int .i64 0,.bool false],38,true⟩:=by rw [hH1];exact ak
 have bs1:Bs H H1:=by rw [hH1];exact⟨by simp,by simp⟩
 have ht1:cJ H1:=bQ ht bs1;have e1:=fun H:LH=>s8 (H:=H) (n:=s.length) (en:=en);have e2:=Gg (H:=H1) (st:=c.st) (s:=s) (hr.keep le1.1 le1.2) hs ht1 (hm.bs bs1) hc;rw [bs1.1,bs1.2,<-hj]at e2;have e3:=RB (H:=H1) (u:=c.u) (a1:=c.a1) (a2:=c.a2) (me:=c.me) (st:=c.st) (s:=s) (hr.keep le1.1 le1.2) hs ht1 hc;have e4:=fun m=>Pm (H:=H1.new ⟨[.int .i64 (Tg.Ob.ofP c.me c.st c.h s).v,str (Tg.Ob.ofP c.me c.st c.h s).r,.int .i64 (Tg.Ob.ofP c.me c.st c.h s).n,.bool (Tg.Ob.ofP c.me c.st c.h s).m],38,true⟩) (c:=c) (m:=m) ((hr.keep le1.1 le1.2).keep (Nat.le_succ _) (fun k hk=>aa (by omega))) hs;have g2:(H1.new ⟨[.int .i64 (Tg.Ob.ofP c.me c.st c.h s).v,str (Tg.Ob.ofP c.me c.st c.h s).r,.int .i64 (Tg.Ob.ofP c.me c.st c.h s).n,.bool (Tg.Ob.ofP c.me c.st c.h s).m],38,true⟩).get H.n=_:=(aa (by omega)).trans g1;have j2:(H1.new ⟨[.int .i64 (Tg.Ob.ofP c.me c.st c.h s).v,str (Tg.Ob.ofP c.me c.st c.h s).r,.int .i64 (Tg.Ob.ofP c.me c.st c.h s).n,.bool (Tg.Ob.ofP c.me c.st c.h s).m],38,true⟩).get (H.n+1)=_:=(aa (by omega)).trans j1;have le2:=le1.new (b:=⟨[.int .i64 (Tg.Ob.ofP c.me c.st c.h s).v,str (Tg.Ob.ofP c.me c.st c.h s).r,.int .i64 (Tg.Ob.ofP c.me c.st c.h s).n,.bool (Tg.Ob.ofP c.me c.st c.h s).m],38,true⟩);unfold bh;have hw:Ie= [112,97,114,116]:=rfl;rw [hw];generalize Tg.Ob.ofP c.me c.st c.h s=J at*;generalize gT j c.h s=B at*;generalize eE s.length en=rd at*;generalize ((s.take 1445).length:Int)=L at*;obtain⟨lg,k,d,u,a1,a2,me,st,l,kn⟩:=c;obtain⟨jv',jr,jn,jm⟩:=J;dsimp only at*;cases rd with
 |false=>
  simp [hc,<-hH1,g1,j1,e1,Tg.Ob.noJ]
  first|exact le1|exact le1.set (Nat.le_succ _)
 |true=>
  cases lg with
  |true=>
   simp [hc,<-hH1,g1,j1,e1,e2]
   first|exact le1|exact le1.set (Nat.le_succ _)
  |false=>
   have e5:=e4 jm;generalize Gh _ jm=my at*;by_cases hv:jv'=1
   ·subst hv;cases my with
    |true=>
     simp [hc,<-hH1,g1,j1,e1,e3,g2,j2,n1,e5]
     first|exact le2|exact le2.set (Nat.le_succ _)
    |false=>
     simp [hc,<-hH1,g1,j1,e1,e3,g2,j2,n1,e5,nJ]
     first|exact le2|exact le2.set (Nat.le_succ _)
   ·have hvf:=eq_false hv;simp [hc,<-hH1,g1,j1,e1,e3,g2,j2,n1,hvf]
    first|exact le2|exact le2.set (Nat.le_succ _)
end
def jW (c:Cas) (s:List UInt8) (en:Bool):Jud:=⟨(Jx.Lx.ofP s c.k (Jx.clamp c.d).toNat en).v,(Jx.Lx.ofP s c.k (Jx.clamp c.d).toNat en).r,(Jx.Lx.ofP s c.k (Jx.clamp c.d).toNat en).a,false⟩
def bc (j:Bool) (c:Cas) (s:List UInt8) (en:Bool):Jud:=
 if(bU c).v≠0 then bU c
 else if(bh j c s en).v≠0 then bh j c s en
 else if(c.lg||!eE s.length en)=true then noJ
 else jW c s en
section
variable {H H':LH} {N:Nat} {s t u:List UInt8} {v w:Value} {c:Cas} {n:Int} {en m:Bool}
theorem Pn (ht:cJ H) (hs:s.length<=1000000):LC Tryz.prog EJ 23 [str s,.agg #[.bool c.lg,.int .i64 c.k,.int .i64 c.d],.bool en] H=some (K7 (jW c s en),H):=dj (s:=jR) rfl (by
 unfold jR str jW;dsimp only;rw [if_pos ⟨ht,by rw [cN];exact hs⟩];rfl)
theorem qP (hr:bT H v c.h) (hs:Tg.Mi.SmH c.h) (ht:cJ H) (hm:dU H) (hl:s.length<=1000000):LC Tryz.prog EJ 15 [casv c v,str s,.bool en] H=some (K7 (bc (cX H.base H.ng (s.take 1445)) c s en),H):=by
 obtain⟨j,hj⟩: ∃j,j=cX H.base H.ng (s.take 1445):=⟨_,rfl⟩
 rw [<-hj];refine ag rfl Tryz.func15 rfl (Nat.le_of_ble_eq_true rfl) (by decide) (by kernel_rfl) rfl ?_;have hc:=aV hr;obtain⟨H1,hH1⟩: ∃H1,H1=(H.new ⟨[.bool c.lg,.int .i64 c.k,.int .i64 c.d,str c.u,.bool c.a1,.bool c.a2,.int .i64 c.me,.int .i64 c.st,v,.bool c.kn],30,true⟩).new ⟨[.int .i64 0,str [],.int .i64 0,.bool false],38,true⟩:=⟨_,rfl⟩
 have le1:H.le H1:=by rw [hH1];exact le_refl.new.new
 have n1:H1.n=H.n+1+1:=by rw [hH1];rfl
 have g1:H1.get H.n=some ⟨[.bool c.lg,.int .i64 c.k,.int .i64 c.d,str c.u,.bool c.a1,.bool c.a2,.int .i64 c.me,.int .i64 c.st,v,.bool c.kn],30,true⟩:=by rw [hH1,aa (by simp),ak]
 have j1:H1.get (H.n+1)=some ⟨[.int .i64 0,str [],.int .i64 0,.bool false],38,true⟩:=by rw [hH1];exact ak
 have bs1:Bs H H1:=by rw [hH1];exact⟨by simp,by simp⟩
 have ht1:cJ H1:=bQ ht bs1;have e1:=yl (hr.keep le1.1 le1.2) hs ht1;have bk: ∀x y:Jud,Bs H ((H1.new ⟨[.int .i64 x.v,str x.r,.int .i64 x.n,.bool x.m],38,true⟩).new ⟨[.int .i64 y.v,str y.r,.int .i64 y.n,.bool y.m],38,true⟩):=fun x y=>bs1.trans ⟨by simp,by simp⟩;have bk1: ∀x:Jud,Bs H (H1.new ⟨[.int .i64 x.v,str x.r,.int .i64 x.n,.bool x.m],38,true⟩):=fun x=>bs1.trans ⟨by simp,by simp⟩;have hr1:=hr.keep le1.1 le1.2;have e2:=u3 (H:=H1.new ⟨[.int .i64 (bU c).v,str (bU c).r,.int .i64 (bU c).n,.bool (bU c).m],38,true⟩) (s:=s) (en:=en) (hr1.keep (Nat.le_succ _) (fun k hk=>aa (by omega))) hs (bQ ht (bk1 _)) (hm.bs (bk1 _));rw [(bk1 (bU c)).1,(bk1 (bU c)).2,<-hj]at e2;have e3:=fun H:LH=>s8 (H:=H) (n:=s.length) (en:=en);have e4:=Pn (H:=(H1.new ⟨[.int .i64 (bU c).v,str (bU c).r,.int .i64 (bU c).n,.bool (bU c).m],38,true⟩).new ⟨[.int .i64 (bh j c s en).v,str (bh j c s en).r,.int .i64 (bh j c s en).n,.bool (bh j c s en).m],38,true⟩) (c:=c) (s:=s) (en:=en) (bQ ht (bk _ _)) hl;unfold bc;generalize hA:bU c=A at*;generalize hB:bh j c s en=B at*;generalize hO:jW c s en=O at*;generalize eE s.length en=rd at*;clear hA hB hO;obtain⟨lg,k,d,u,a1,a2,me,st,l,kn⟩:=c;obtain⟨av,ar,an,am⟩:=A;obtain⟨bv,br,bn,bm⟩:=B;dsimp only at*;obtain⟨H2,hH2⟩: ∃H2,H2=H1.new ⟨[.int .i64 av,str ar,.int .i64 an,.bool am],38,true⟩:=⟨_,rfl⟩
 obtain⟨H3,hH3⟩: ∃H3,H3=H2.new ⟨[.int .i64 bv,str br,.int .i64 bn,.bool bm],38,true⟩:=⟨_,rfl⟩
 have n2:H2.n=H.n+1+1+1:=by rw [hH2];show H1.n+1=_;rw [n1]
 have g2:H2.get H.n=some ⟨[.bool lg,.int .i64 k,.int .i64 d,str u,.bool a1,.bool a2,.int .i64 me,.int .i64 st,v,.bool kn],30,true⟩:=by rw [hH2,aa (by omega),g1]
 have j2:H2.get (H.n+1)=some ⟨[.int .i64 0,str [],.int .i64 0,.bool false],38,true⟩:=by rw [hH2,aa (by omega),j1]
 have k2:H2.get (H.n+1+1)=some ⟨[.int .i64 av,str ar,.int .i64 an,.bool am],38,true⟩:=by rw [hH2,<-n1,ak]
 have g3:H3.get H.n=some ⟨[.bool lg,.int .i64 k,.int .i64 d,str u,.bool a1,.bool a2,.int .i64 me,.int .i64 st,v,.bool kn],30,true⟩:=by rw [hH3,aa (by omega),g2]
 have j3:H3.get (H.n+1)=some ⟨[.int .i64 0,str [],.int .i64 0,.bool false],38,true⟩:=by rw [hH3,aa (by omega),j2]
 have k3:H3.get (H.n+1+1+1)=some ⟨[.int .i64 bv,str br,.int .i64 bn,.bool bm],38,true⟩:=by rw [hH3,<-n2,ak]
 have le2:H.le H2:=by rw [hH2];exact le1.new
 have le3:H.le H3:=by rw [hH3];exact le2.new
 rw [<-hH2]at e2 e4;rw [<-hH3]at e4;by_cases ha:av=0
 ·subst ha;by_cases hb:bv=0
  ·subst hb;cases lg with
   |true=>
    simp [hc,<-hH1,g1,j1,e1,<-hH2,g2,j2,k2,n1,n2,e2,<-hH3,g3,j3,k3,Tg.Ob.noJ]
    first|exact le3|exact le3.set (Nat.le_succ _)
   |false=>
    cases rd with
    |false=>
     simp [hc,<-hH1,g1,j1,e1,<-hH2,g2,j2,k2,n1,n2,e2,<-hH3,g3,j3,k3,e3,Tg.Ob.noJ]
     first|exact le3|exact le3.set (Nat.le_succ _)
    |true=>
     simp [hc,<-hH1,g1,j1,e1,<-hH2,g2,j2,k2,n1,n2,e2,<-hH3,g3,j3,k3,e3,e4]
     first|exact le3|exact le3.set (Nat.le_succ _)
  ·have hbf:=eq_false hb;simp [hc,<-hH1,g1,j1,e1,<-hH2,g2,j2,k2,n1,n2,e2,<-hH3,g3,j3,k3,hbf]
   first|exact le3|exact le3.set (Nat.le_succ _)
 ·have haf:=eq_false ha;simp [hc,<-hH1,g1,j1,e1,<-hH2,g2,j2,k2,n1,haf]
  first|exact le2|exact le2.set (Nat.le_succ _)
end
def ym (c:Cas):Cas:=⟨c.lg,c.k,c.d,c.u.take 80,c.a1,c.a2,c.me,c.st,Tg.Hd.few c.h 8,c.kn⟩
section
variable {H H':LH} {N:Nat} {s t u:List UInt8} {v w:Value} {c:Cas} {n:Int} {en m:Bool}
theorem wk (hr:bT H v c.h) (hs:Tg.Mi.SmH c.h) (ht:cJ H) (hm:dU H) (hl:s.length<=1000000):LC Tryz.prog EJ 8 [casv c v,str s,.bool en] H=some (K7 (bc (cX H.base H.ng (s.take 1445)) c s en),H):=by
 obtain⟨j,hj⟩: ∃j,j=cX H.base H.ng (s.take 1445):=⟨_,rfl⟩
 rw [<-hj];refine ag rfl Tryz.func8 rfl (Nat.le_of_ble_eq_true rfl) (by decide) (by kernel_rfl) rfl ?_;have hc:=aV hr;obtain⟨H1,hH1⟩: ∃H1,H1=(H.new ⟨[.bool c.lg,.int .i64 c.k,.int .i64 c.d,str c.u,.bool c.a1,.bool c.a2,.int .i64 c.me,.int .i64 c.st,v,.bool c.kn],30,true⟩).new ⟨[.int .i64 0,str [],.int .i64 0,.bool false],38,true⟩:=⟨_,rfl⟩
 have le1:H.le H1:=by rw [hH1];exact le_refl.new.new
 have n1:H1.n=H.n+1+1:=by rw [hH1];rfl
 have g1:H1.get H.n=some ⟨[.bool c.lg,.int .i64 c.k,.int .i64 c.d,str c.u,.bool c.a1,.bool c.a2,.int .i64 c.me,.int .i64 c.st,v,.bool c.kn],30,true⟩:=by rw [hH1,aa (by simp),ak]
 have j1:H1.get (H.n+1)=some ⟨[.int .i64 0,str [],.int .i64 0,.bool false],38,true⟩:=by rw [hH1];exact ak
 have bs1:Bs H H1:=by rw [hH1];exact⟨by simp,by simp⟩
 have e1:=qP (H:=H1) (en:=en) (hr.keep le1.1 le1.2) hs (bQ ht bs1) (hm.bs bs1) hl;rw [bs1.1,bs1.2,<-hj]at e1;generalize bc j c s en=J at*;simp [hc,<-hH1,g1,j1,e1]
 first|exact le1|exact le1.set (Nat.le_succ _)
theorem s9 (hr:bT H v c.h) (hs:Tg.Mi.SmH c.h) (ht:cJ H) (hm:dU H) (hl:s.length<=1000000):LC Tryz.prog EJ 9 [casv c v,str s] H=some (K7 (bc (cX H.base H.ng (s.take 1445)) c s true),H):=by
 obtain⟨j,hj⟩: ∃j,j=cX H.base H.ng (s.take 1445):=⟨_,rfl⟩
 rw [<-hj];refine ag rfl Tryz.func9 rfl (Nat.le_of_ble_eq_true rfl) (by decide) (by kernel_rfl) rfl ?_;have hc:=aV hr;obtain⟨H1,hH1⟩: ∃H1,H1=(H.new ⟨[.bool c.lg,.int .i64 c.k,.int .i64 c.d,str c.u,.bool c.a1,.bool c.a2,.int .i64 c.me,.int .i64 c.st,v,.bool c.kn],30,true⟩).new ⟨[.int .i64 0,str [],.int .i64 0,.bool false],38,true⟩:=⟨_,rfl⟩
 have le1:H.le H1:=by rw [hH1];exact le_refl.new.new
 have n1:H1.n=H.n+1+1:=by rw [hH1];rfl
 have g1:H1.get H.n=some ⟨[.bool c.lg,.int .i64 c.k,.int .i64 c.d,str c.u,.bool c.a1,.bool c.a2,.int .i64 c.me,.int .i64 c.st,v,.bool c.kn],30,true⟩:=by rw [hH1,aa (by simp),ak]
 have j1:H1.get (H.n+1)=some ⟨[.int .i64 0,str [],.int .i64 0,.bool false],38,true⟩:=by rw [hH1];exact ak
 have bs1:Bs H H1:=by rw [hH1];exact⟨by simp,by simp⟩
 have e1:=qP (H:=H1) (en:=true) (hr.keep le1.1 le1.2) hs (bQ ht bs1) (hm.bs bs1) hl;rw [bs1.1,bs1.2,<-hj]at e1;generalize bc j c s true=J at*;simp [hc,<-hH1,g1,j1,e1]
 first|exact le1|exact le1.set (Nat.le_succ _)
def jX (a b:Jud):Bool:=decide (a.v=b.v)&&(decide (a.r=b.r)&&(a.m==b.m))
theorem CU (h:ao (casv c v)=true) (hc:aC v=true):ao v=true:=by
 simp only [ao,az,List.all_cons,Bool.and_eq_true]at h;have h1:=h.2.2.2.2.2.2.2.2.1;cases v<;>first|exact h1|(simp [aC]at hc)
theorem s_ (hr:bT H v c.h) (hl:c.h.length<=9223372036854775807): ∃v' H',LC Tryz.prog EJ 5 [casv c v] H=some (casv (ym c) v',H')/\H.le H'/\gm H.n H' v' (ym c).h/\Bs H H':=by
 have hc:=aV hr;obtain⟨lg,k,d,u,a1,a2,me,st,l,kn⟩:=c;dsimp only [ym]at*;obtain⟨H1,hH1⟩: ∃H1,H1=(H.new ⟨[.bool lg,.int .i64 k,.int .i64 d,str u,.bool a1,.bool a2,.int .i64 me,.int .i64 st,v,.bool kn],30,true⟩).new ⟨[.bool false,.int .i64 0,.int .i64 0,str [],.bool false,.bool false,.int .i64 0,.int .i64 0,.slice none 0 0,.bool false],30,true⟩:=⟨_,rfl⟩
 have le1:H.le H1:=by rw [hH1];exact le_refl.new.new
 have n1:H1.n=H.n+1+1:=by rw [hH1];rfl
 have g1:H1.get H.n=some ⟨[.bool lg,.int .i64 k,.int .i64 d,str u,.bool a1,.bool a2,.int .i64 me,.int .i64 st,v,.bool kn],30,true⟩:=by rw [hH1,aa (by simp),ak]
 have j1:H1.get (H.n+1)=some ⟨[.bool false,.int .i64 0,.int .i64 0,str [],.bool false,.bool false,.int .i64 0,.int .i64 0,.slice none 0 0,.bool false],30,true⟩:=by rw [hH1];exact ak
 have bs1:Bs H H1:=by rw [hH1];exact⟨by simp,by simp⟩
 have e1:=fun H:LH=>Pf (H:=H) (u:=u) (a1:=a1) (a2:=a2) (me:=me);obtain⟨v2,H2,e2,le2,hr2,bs2⟩:=CI (st:=st) (hr.keep le1.1 le1.2) hl;have g2:=(le2.2 H.n (by omega)).trans g1;have j2:=(le2.2 (H.n+1) (by omega)).trans j1;have n2:=le2.1;have hc2:=aV hr2.row;have d1:(H.n=H.n+1)=False:=eq_false (by omega);have d2:(H.n+1=H.n)=False:=eq_false (by omega);have hle:=le1.trans le2;generalize u.take 80=u2 at*;have p1:aW [.bool lg,.int .i64 k,.int .i64 d,str u,.bool a1,.bool a2,.int .i64 me,.int .i64 st,v,.bool kn] 3 [str u2,.bool a1,.bool a2,.int .i64 me]= [.bool lg,.int .i64 k,.int .i64 d,str u2,.bool a1,.bool a2,.int .i64 me,.int .i64 st,v,.bool kn]:=rfl;have p2:aW [.bool lg,.int .i64 k,.int .i64 d,str u2,.bool a1,.bool a2,.int .i64 me,.int .i64 st,v,.bool kn] 7 [.int .i64 st,v2]= [.bool lg,.int .i64 k,.int .i64 d,str u2,.bool a1,.bool a2,.int .i64 me,.int .i64 st,v2,.bool kn]:=rfl;obtain⟨c2,hc2'⟩: ∃c2:List Value,c2= [.bool lg,.int .i64 k,.int .i64 d,str u2,.bool a1,.bool a2,.int .i64 me,.int .i64 st,v2,.bool kn]:=⟨_,rfl⟩
 have key: ∃r,LC Tryz.prog EJ 5 [.agg #[.bool lg,.int .i64 k,.int .i64 d,str u,.bool a1,.bool a2,.int .i64 me,.int .i64 st,v,.bool kn]] H=some (Lg.trunc H r)/\r.1=.agg #[.bool lg,.int .i64 k,.int .i64 d,str u2,.bool a1,.bool a2,.int .i64 me,.int .i64 st,v2,.bool kn]/\r.2=(H2.set H.n ⟨c2,30,true⟩).set (H.n+1) ⟨c2,30,true⟩:=by
  rw [hc2'];refine aD (P:=Tryz.prog) (E:=EJ) (f:=5) rfl Tryz.func5 rfl (Nat.le_of_ble_eq_true rfl) (by decide) (by kernel_rfl) ?_;simp [hc,<-hH1,g1,e1,e2,g2,j2,hc2,d1,d2,p1,p2]
 obtain⟨⟨r,H3⟩,e3,h1,h2⟩:=key;simp only at h1 h2;subst h1 h2;have hle3:H.le ((H2.set H.n ⟨c2,30,true⟩).set (H.n+1) ⟨c2,30,true⟩):=(hle.set (Nat.le_refl _)).set (by omega)
 have hold:gm H.n ((H2.set H.n ⟨c2,30,true⟩).set (H.n+1) ⟨c2,30,true⟩) v2 (Tg.Hd.few l 8):=by
  have h0:=bA.keep (H':=(H2.set H.n ⟨c2,30,true⟩).set (H.n+1) ⟨c2,30,true⟩) hr2 (Nat.le_refl _) (fun k hk _ _=>by rw [ah (by omega),ah (by omega)]);exact gm.weak h0 (by omega)
 rcases cm (.agg #[.bool lg,.int .i64 k,.int .i64 d,str u2,.bool a1,.bool a2,.int .i64 me,.int .i64 st,v2,.bool kn]) H ((H2.set H.n ⟨c2,30,true⟩).set (H.n+1) ⟨c2,30,true⟩)with e4|⟨e4,hf,_⟩
 ·exact⟨v2,_,by rw [e3,e4],hle3,hold,bs1.trans (bs2.trans ⟨by simp,by simp⟩)⟩
 ·refine⟨v2,H,by rw [e3,e4],le_refl,?_,Bs.refl _⟩;have hf2:=CU (c:=⟨lg,k,d,u2,a1,a2,me,st,l,kn⟩) hf hc2;refine⟨hold.1,?_⟩;rcases hold.2 with h|⟨k,c,rest,rfl,_⟩
  ·exact .inl h
  ·simp [ao,az,aA]at hf2
end
abbrev bodyv (b:Int) (s:List UInt8):Value:=.agg #[.int .u16 b,str s]
def cS (b:Int) (s:List UInt8):List UInt8:=List.replicate (b%1500).toNat 32++s.take 90
theorem yn {k i:Nat} (h:i<k):(List.replicate i (32:UInt8)++List.replicate (k-i) (0:UInt8)).set i 32=List.replicate (i+1) 32++List.replicate (k-(i+1)) 0:=by
 obtain⟨d,rfl⟩: ∃d,k=i+(d+1):=⟨k-i-1,by omega⟩
 rw [show i+(d+1)-i=d+1 by omega,show i+(d+1)-(i+1)=d by omega,List.set_append_right _ _ (by simp),List.length_replicate,Nat.sub_self,List.replicate_succ,List.set_cons_zero,List.replicate_succ',List.append_assoc];rfl
section
variable {H H':LH} {N:Nat} {s t u:List UInt8} {v w:Value} {b:Int}
theorem Gj (h0:0<=b) (h1:b<=65535):LC Tryz.prog EJ 7 [bodyv b s] H=some (str (cS b s),H):=by
 refine ag rfl Tryz.func7 rfl (Nat.le_of_ble_eq_true rfl) (by decide) (by kernel_rfl) rfl ?_;have e1:=fun H:LH=>Ia (H:=H) (s:=s) (k:=90) (by decide);simp only [show((90:Int).toNat)=90 from rfl]at e1;unfold cS;obtain⟨k,hk⟩: ∃k:Nat,(k:Int)=b%1500:=⟨(b%1500).toNat,by omega⟩
 have hk2:k<1500:=by omega
 have hk3:Int.tmod b 1500=k:=by rw [Int.tmod_eq_emod_of_nonneg h0];omega
 rw [<-hk];have hul:(s.take 90).length<=90:=by rw [List.length_take];omega
 generalize s.take 90=u at*;have hw:IntKind.i64.wrap b=b:=wrapI (by omega) (by omega);have hm:=fun H:LH=>xw (P:=Tryz.prog) (t:=49) (H:=H) (e:=5) (z:=.int .u8 0) (l:=k) (c:=k) (k:=.i64) (k':=.i64) Tryz.underlying49 (by kernel_rfl) (by kernel_rfl) rfl rfl (by omega) (by omega) (by omega);simp [hw,hk3,hm];refine aK (fun(i:Nat) fr' H'=>fr' 1=ptr H.n 0/\fr' 3=sl (H.n+1) k k/\fr' 4=.int .i64 i/\i<=k/\H.le H'/\H.n+1<H'.n/\H'.get H.n=some ⟨[.int .u16 b,str s],33,true⟩/\H'.get (H.n+1)=some ⟨iB (List.replicate i 32++List.replicate (k-i) 0),5,true⟩) (fun i=>k-i) 0 ⟨by simp,by simp,by simp,Nat.zero_le _,le_refl.new.new,by simp,?_,?_⟩ ?_
 ·rw [aa (by simp),ak]
 ·simp [iB]
 rintro i fr' H' ⟨g1,g3,g4,hi,hle,hn,ga,gb⟩ ih;have hlen:(List.replicate i (32:UInt8)++List.replicate (k-i) (0:UInt8)).length=k:=by simp;omega
 by_cases hlt:i<k
 ·have q:=eq_true (show(i:Int)<(k:Int) by omega);have hw1:IntKind.i64.wrap ((i:Int)+1)=((i+1:Nat):Int):=by rw [wrapI (by omega) (by omega)];omega
  have s1:lst Tryz.prog 5 (ptr (H.n+1) i) (.int .u8 32) H'=some (undef,_):=nh (H:=H') gb (by omega) 32;rw [yn hlt]at s1;have go:=fun(fr2:Fr) (H2:LH)=>ih (i+1) fr2 H2 (by omega);clear ih;generalize iB (List.replicate (i+1) (32:UInt8)++List.replicate (k-(i+1)) 0)=cs at*;simp [g1,g3,g4,q,s1,hlt];refine go _ _ ⟨?_,?_,?_,by omega,hle.set (by omega),hn,?_,by rw [aw]⟩
  ·simp [g1]
  ·simp [g3]
  ·simp [hw1]
  ·rw [ah (by omega)];exact ga
 ·have q:=eq_false (show¬(i:Int)<(k:Int) by omega);have hik:i=k:=by omega
  subst hik;rw [Nat.sub_self,List.replicate_zero,List.append_nil]at gb;have c1:=jL (H:=H') (c:=i) gb;rw [List.length_replicate]at c1;have hcat:(List.replicate i (32:UInt8)).length=i:=List.length_replicate;generalize List.replicate i (32:UInt8)=z at*;have cat: ∀T,bL Tryz.prog .add T (str z) (str u)=some (str (z++u)):=fun T=>r_ (by omega);simp [g1,g3,g4,q,c1,ga,e1,cat];exact hle
end
end Go.Proofs.YtbeoilidocfofaaGreatDoor.Sn
namespace Tg.Ob
theorem yo {s x:List UInt8} (h:1445<=s.length):Tg.Sn.kind (s.take 1445++x)=Tg.Sn.kind s:=by
 have e:(s.take 1445++x).take 1445=s.take 1445:=by
  rw [List.take_append_of_le_length (by rw [List.length_take];omega),List.take_take,Nat.min_self]
 unfold Tg.Sn.kind;rw [e]
theorem wm {me st:Int} {l:List Tg.Hd.Hdr} {s x:List UInt8} (h:1445<=s.length):ofP me st l (s.take 1445++x)=ofP me st l s:=by
 have h1:judgeP me st l (s.take 1445++x)=judgeP me st l s:=by
  unfold judgeP;rw [yo h]
 have h2:at31 ((s.take 1445++x).length:Nat)=at31 (s.length:Nat):=by
  unfold at31;rw [List.length_append,List.length_take];have e1: ¬(((min 1445 s.length+x.length:Nat):Int)<0):=by omega
  have e2: ¬(((s.length:Nat):Int)<0):=by omega
  rw [if_neg e1,if_neg e2];split<;>split<;>omega
 unfold ofP;rw [h1,h2]
end Tg.Ob
