/-
  Texts joined, part 6: HdSetD, PlOut, PlOutB, LgMapE, PlOutC, PlLives, PlFilt, ScPrint, PlRun, PlOutR, PlChoose, DoorC, DoorO, DoorV.
-/
import Derived.Test.YteeiipildjgdbaaGreatDoorM5
import Derived.Test.YteeiipildjgdbaaGreatDoorM4
import Derived.Test.YteeiipildjgdbaaGreatDoorRows
import Derived.Test.YteeiipildjgdbaaGreatDoorM1
import Derived.ProofKit
import Derived.WideShapes
import Derived.RowKit
import Derived.ChangeArms
import Derived.LaidMore
import Derived.LaidSub
import Derived.Lib.LaidTab
import Derived.Stop.Joined
import Derived.Shelf.Vars
import Derived.HandedShaped
import Derived.Lay
import Derived.DataShut
set_option linter.unusedSimpArgs false
set_option linter.unusedVariables false
set_option maxRecDepth 100000
namespace Tg.Hd
theorem cells_drop: ∀(l:List Hdr) (i:Nat),(cells l).drop (i*2)=cells (l.drop i)
 | [],i=>by simp [cells]
 |h::l,0=>by simp [cells]
 |h::l,i+1=>by
  rw [cells_cons,List.drop_succ_cons,show(i+1)*2=i*2+1+1 by omega,List.drop_succ_cons,List.drop_succ_cons,cells_drop l i]
end Tg.Hd
namespace Go.Proofs.YteeiipildjgdbaaGreatDoor
open Go.Lg Go.Tg
section
variable {H H':LH} {v w:Value} {l m:List Tg.Hd.Hdr} {N:Nat} {s name value:List UInt8} {h:Tg.Hd.Hdr} {p:Nat}
theorem HOwn.src (h:HOwn N H v l) (hk: ∀k,N≤k→k<H.n→H'.get k=H.get k):lesrc Tryz.prog 51 v H'=some (l.length,Tg.Hd.cells l):=by
 rcases h.2 with⟨rfl,h0⟩|⟨k,c,rest,rfl,g1,g2,g3,g4,g5⟩
 ·have:l= []:=List.eq_nil_of_length_eq_zero h0
  subst this
  simp [Tg.Hd.cells]
 ·have hl:=Tg.Hd.cells_len l
  rw [lesrc_row (s:=2) Tryz.underlying51 (by kernel_rfl) (by rw [hk k g1 g2];exact g3) (by rw [List.length_append,hl];omega)]
  rw [List.drop_zero,List.take_left' hl]
end
end Go.Proofs.YteeiipildjgdbaaGreatDoor
namespace Go.Proofs.YteeiipildjgdbaaGreatDoor.Sc
open Go.Lg Go.Tg
abbrev outl (o:Tg.Sc.Out) (p:Value):List Value:= [.int .i64 o.kind,.int .i64 o.id,.int .i64 o.status,p,str o.body,str o.reason]
def elH:El Tg.Hd.Hdr:=El.flat 2 (fun h=> [str h.1,str h.2]) (fun _=>rfl) (fun _=>by simp)
abbrev HG (N:Nat) (H:LH) (p:Value) (l:List Tg.Hd.Hdr):Prop:=RowG elH 73 N H p l
def elO:El Tg.Sc.Out where
 n:=6
 S:=fun t=>t=73
 ok:=fun N H cs o=> ∃p,cs=outl o p∧HG N H p o.hdrs
 len:=fun⟨p,h,_⟩=>by rw [h];rfl
 cell:=fun⟨p,h,g⟩=>by rw [h];simp [g.cell]
 keep:=fun hk ⟨p,h,g⟩=>⟨p,h,g.keep (hk.weak fun t ht=>ht.elim id False.elim)⟩
 ro:=fun⟨p,h,g⟩=>⟨p,h,g.ro⟩
abbrev OG (N:Nat) (H:LH) (v:Value) (l:List Tg.Sc.Out):Prop:=RowG elO 53 N H v l
abbrev OOwn (N M:Nat) (H:LH) (v:Value) (l:List Tg.Sc.Out):Prop:=OwnG elO 53 N M H v l
theorem noS: ¬elO.S 53:=by show¬53=73;decide
theorem szO:sz Tryz.prog 53=some elO.n:=by kernel_rfl
theorem leszO:lesz Tryz.prog 53=some elO.n:=by kernel_rfl
theorem leszH:lesz Tryz.prog 73=some elH.n:=by kernel_rfl
theorem aggO:aggB Tryz.prog 53=some true:=by kernel_rfl
section
variable {H H':LH} {N M:Nat} {v w p:Value} {l:List Tg.Sc.Out} {hs:List Tg.Hd.Hdr} {o:Tg.Sc.Out} {id:Int} {p1:Option Addr} {p2 p3:Nat}
theorem HG.hrow (h:HG N H v hs):HRow H v hs:=by
 rcases h with h|⟨k,o,c,b,rfl,g1,g2,_,g5,g4⟩
 ·exact .inl h
 ·refine .inr ⟨k,o,c,rfl,fun _=>⟨b,g1,g2,fun i hi=>?_⟩⟩
  have h7:(b.cells.drop (o+i*2)).take 2= [str hs[i].1,str hs[i].2]:=g4 i hi
  have hle:o+i*2+2≤b.cells.length:=by
   have:=Nat.mul_le_mul_right 2 (show i+1≤hs.length by omega)
   have g5:o+hs.length*2≤b.cells.length:=g5
   omega
  have e1:b.cells[o+i*2]?=((b.cells.drop (o+i*2)).take 2)[0]?:=by rw [List.getElem?_take,if_pos (by decide),List.getElem?_drop];rfl
  have e2:b.cells[o+i*2+1]?=((b.cells.drop (o+i*2)).take 2)[1]?:=by rw [List.getElem?_take,if_pos (by decide),List.getElem?_drop]
  exact⟨hle,h7,by rw [e1,h7];rfl,by rw [e2,h7];rfl⟩
theorem HOwn.gown (h:HOwn M H v hs):OwnG elH 73 N M H v hs:=by
 refine⟨Tg.Hd.cells hs,h,fun i hi=>?_⟩
 show((Tg.Hd.cells hs).drop (i*2)).take 2= [str hs[i].1,str hs[i].2]
 rw [Tg.Hd.cells_drop,List.drop_eq_getElem_cons hi,Tg.Hd.cells_cons]
 rfl
theorem hclone_g (hr:HG N H v hs) (hl:hs.length≤1000000):Gives Tryz.prog EJ 43 [v] H fun H' r=>OwnG elH 73 N H.n H' r hs:=by
 refine gives_of ?_ (fun v H' hf h=>h.flat hf)
 refine LC_runs (P:=Tryz.prog) (E:=EJ) (f:=43) rfl Tryz.func43 rfl (by kernel_rfl) ?_
 obtain⟨v',H2,a1,a2,a3⟩:=OwnG.copy (M:=H.n) (P:=Tryz.prog) (t:=51) hr Tryz.underlying51 leszH (by unfold maxElems;omega) (Nat.le_refl _)
 rcases hr with⟨rfl,rfl⟩|⟨k,o,c,b,rfl,h2⟩
 ·simp
  exact OwnG.nil
 ·simp [bs0h,a1]
  exact⟨a3,a2⟩
theorem bs0o:lbuildSlice Tryz.prog 32 0 [] H=some (sl H.n 0 0,H.new ⟨[],53,true⟩):=by
 unfold lbuildSlice
 simp [Instr.fill,Array.range,Value.cells]
 try rfl
theorem bs1out:lbuildSlice Tryz.prog 32 1 [(0,outv o (.slice p1 p2 p3))] H=some (sl H.n 1 1,H.new ⟨outl o (.slice p1 p2 p3),53,true⟩):=by
 unfold lbuildSlice
 simp [Instr.fill,Value.cells,Array.range]
 rfl
theorem flat_outv (hf:flatB (outv o p)=true) (hc:cellB p=true):flatB p=true:=by
 simp only [flatB,flat1B,List.all_cons,Bool.and_eq_true]at hf
 have h1:=hf.2.2.2.1
 cases p<;>first|exact h1|(simp [cellB]at hc)
theorem copied_ex (hr:HG N H p o.hdrs) (hl:o.hdrs.length≤1000000) (hN:N≤H.n):Gives Tryz.prog EJ 33 [outv o p] H fun H' r=> ∃p',r=outv o p'∧HG N H' p' o.hdrs:=by
 refine gives_of ?_ (fun v H' hf h=>by
  obtain⟨w,rfl,h⟩:=h
  exact⟨w,rfl,h.flat (flat_outv hf h.cell)⟩)
 refine LC_runs (P:=Tryz.prog) (E:=EJ) (f:=33) rfl Tryz.func33 rfl (by kernel_rfl) ?_
 have hcv:=hr.cell
 obtain⟨H1,hH1⟩: ∃H1,H1=(H.new ⟨outl o p,53,true⟩).new ⟨[.int .i64 0,.int .i64 0,.int .i64 0,.slice none 0 0,str [],str []],53,true⟩:=⟨_,rfl⟩
 have le1:H.le H1:=by rw [hH1];exact le_refl.new.new
 have n1:H1.n=H.n+1+1:=by rw [hH1];rfl
 have a1:H1.get H.n=some ⟨outl o p,53,true⟩:=by rw [hH1,get_new_ne (by simp),get_new]
 have b1:H1.get (H.n+1)=some ⟨[.int .i64 0,.int .i64 0,.int .i64 0,.slice none 0 0,str [],str []],53,true⟩:=by rw [hH1];exact get_new
 obtain⟨v2,H2,e2,le2,r2⟩:=hclone_g (hr.le le1) hl
 have cv2:=r2.cell
 have a2:=(le2.2 H.n (by omega)).trans a1
 have b2:=(le2.2 (H.n+1) (by omega)).trans b1
 have d1:(H.n=H.n+1)=False:=eq_false (by omega)
 have d2:(H.n+1=H.n)=False:=eq_false (by omega)
 have n2:=le2.1
 simp [hcv,←hH1,e2,a1,a2,b2,cv2,d1,d2]
 have le3:=le1.trans le2
 refine⟨le3,?_⟩
 have k2:=r2.keep1 (H':=H2.set H.n ⟨outl o v2,53,true⟩) (Nat.le_refl _) a2 (by show 53≠73;decide) (fun h=>h) hN (fun k _ hne=>get_set_ne hne)
 have k3:=k2.keep1 (c:=H.n+1) (H':=(H2.set H.n ⟨outl o v2,53,true⟩).set (H.n+1) ⟨outl o v2,53,true⟩) (Nat.le_refl _) (by rw [get_set_ne (by omega)];exact b2) (by show 53≠73;decide) (fun h=>h) (by omega) (fun k _ hne=>get_set_ne hne)
 exact k3.row
theorem OOwn.app (h:OOwn N M H w l) (hN:N≤M) (hM:M≤H.n) (hl:l.length+1≤maxElems) (hp:HG N H p o.hdrs): ∃w' H2,lapp Tryz.prog 32 w (some (1,outl o p)) (H.new ⟨outl o p,53,true⟩)=some (w',H2)∧OOwn N M H2 w' (l++ [o])∧H.n<H2.n∧(∀k,k<H.n→offRow w k→H2.get k=H.get k)∧(∀k,k<H.n→offRow w k→offRow w' k)∧Keeps N (fun t=>t≠53) H H2:=
 OwnG.app (P:=Tryz.prog) (t:=32) h Tryz.underlying32 leszO hN hM hl ⟨p,rfl,hp⟩ noS
theorem of_ex (hr:OG N H v l) (hl:l.length≤100000) (hz: ∀o∈l,o.hdrs.length≤1000000) (hN:N≤H.n):Gives Tryz.prog EJ 32 [.int .i64 id,v] H fun H' r=>OOwn N H.n H' r (l.filter fun o=>decide (o.id=id)):=by
 refine gives_of ?_ (fun v H' hf h=>h.flat hf)
 refine LC_runs (P:=Tryz.prog) (E:=EJ) (f:=32) rfl Tryz.func32 rfl (by kernel_rfl) ?_
 have hlen:=fun G:LH=>hr.len (H':=G) (t:=32) Tryz.underlying32
 obtain⟨va,vn,vc,rfl⟩:=hr.slice
 simp [hlen]
 refine loop_ind (fun(i:Nat) fr' H'=> ∃w,fr' 0=.int .i64 id∧fr' 5=w∧fr' 8=.slice va vn vc∧fr' 9=.int .i64 l.length∧fr' 10=.int .i64 i∧i≤l.length∧H.le H'∧OOwn N H.n H' w ((l.take i).filter fun o=>decide (o.id=id))) (fun i=>l.length-i) 0 ⟨_,by simp,by simp,by simp,by simp,by simp,Nat.zero_le _,le_refl,OwnG.nil⟩ ?_
 rintro i fr' H' ⟨w,f0,f5,f8,f9,f10,hi,hle,hown⟩ ih
 have hw1:IntKind.i64.wrap ((i:Int)+1)=((i+1:Nat):Int):=by rw [wrapI (by omega) (by omega)];omega
 by_cases hlt:i<l.length
 ·have q0:=eq_true (show(i:Int)<(l.length:Int) by omega)
  obtain⟨k,o1,cs,g1,g2,⟨p,rfl,g3⟩,g4⟩:=(hr.le hle).at (t:=32) Tryz.underlying32 szO hlt
  have g5:=(g4 H' rfl).1 aggO
  have hzi:=hz _ (List.getElem_mem hlt)
  have htk:l.take (i+1)=l.take i++ [l[i]]:=List.take_succ_eq_append_getElem hlt
  have hlf:((l.take i).filter fun o=>decide (o.id=id)).length≤i:=Nat.le_trans (List.length_filter_le _ _) (by rw [List.length_take];omega)
  obtain⟨pa,pn,pc,rfl⟩:=g3.slice
  obtain⟨H1,hH1⟩: ∃H1,H1=H'.new ⟨outl l[i] (.slice pa pn pc),53,true⟩:=⟨_,rfl⟩
  have n1:H1.n=H'.n+1:=by rw [hH1];rfl
  have le1:H'.le H1:=by rw [hH1];exact le_refl.new
  have b1:H1.get H'.n=some ⟨outl l[i] (.slice pa pn pc),53,true⟩:=by rw [hH1];exact get_new
  have hn:=hle.1
  obtain⟨c,H2,e2,le2,p',rfl,g6⟩:=copied_ex (g3.le le1) hzi (by omega)
  obtain⟨w',H3,e3,r3,n3,k3,_,_⟩:=OOwn.app ((hown.le le1).le le2) hN (by have:=le2.1;omega) (by unfold maxElems;omega) g6
  have le3:H.le H3:=⟨by have:=le2.1;omega,fun k hk=>by rw [k3 k (by have:=le2.1;omega) (hown.off_lt hk),le2.2 k (by omega),le1.2 k (by omega),hle.2 k hk]⟩
  have le4:H.le H1:=hle.trans le1
  obtain⟨qa,qn,qc,rfl⟩:=g6.slice
  have bs1:=bs1out (H:=H2) (o:=l[i]) (p1:=qa) (p2:=qn) (p3:=qc)
  generalize l[i]=o at*
  by_cases hid:o.id=id
  ·have hfin:=fun fr2 a0 a5 a8 a9 a10=>ih (i+1) fr2 H3 (by omega) ⟨w',a0,a5,a8,a9,a10,by omega,le3,by rw [htk,List.filter_append,List.filter_cons,if_pos (by simpa using hid)];exact r3⟩
   have q1:=eq_true hid
   clear ih
   simp [f0,f5,f8,f9,f10,q0,g1,g5,←hH1,b1,q1,e2,bs1,e3]
   refine hfin _ ?_ ?_ ?_ ?_ ?_
   all_goals simp [f0,f5,f8,f9,f10,hw1]
  ·have hfin:=fun fr2 a0 a5 a8 a9 a10=>ih (i+1) fr2 H1 (by omega) ⟨w,a0,a5,a8,a9,a10,by omega,le4,by rw [htk,List.filter_append,List.filter_cons,if_neg (by simpa using hid),List.filter_nil,List.append_nil];exact hown.le le1⟩
   have q1:=eq_false hid
   clear ih
   simp [f0,f5,f8,f9,f10,q0,g1,g5,←hH1,b1,q1]
   refine hfin _ ?_ ?_ ?_ ?_ ?_
   all_goals simp [f0,f5,f8,f9,f10,hw1]
 ·have q0:=eq_false (show¬(i:Int)<(l.length:Int) by omega)
  have:i=l.length:=by omega
  subst this
  rw [List.take_length]at hown
  simp [f5,f9,f10,q0]
  exact⟨hle,hown⟩
def ORow (H:LH) (v:Value) (l:List Tg.Sc.Out):Prop:=
 (v=.slice none 0 0∧l= [])∨ ∃(k o c:Nat),v=.slice (some ⟨k,o,none⟩) l.length c∧(l≠ []→ ∃b:LB,H.get k=some b∧k<H.n∧o+l.length*6≤b.cells.length∧
  ∀(i:Nat) (h:i<l.length),∃p,(b.cells.drop (o+i*6)).take 6=outl l[i] p∧HRow H p l[i].hdrs)
theorem ORow.keep (h:ORow H v l) (hle:H.le H'):ORow H' v l:=by
 rcases h with h|⟨k,o,c,h1,h2⟩
 ·exact .inl h
 ·refine .inr ⟨k,o,c,h1,fun hne=>?_⟩
  obtain⟨b,h3,h4,h5,h6⟩:=h2 hne
  exact⟨b,by rw [hle.2 k h4];exact h3,Nat.lt_of_lt_of_le h4 hle.1,h5,fun i hi=>by
   obtain⟨p,q1,q2⟩:=h6 i hi
   exact⟨p,q1,q2.keep hle.1 hle.2⟩⟩
theorem ORow.len (h:ORow H v l):lbuiltin Tryz.prog .len [32] [v] H'=some (.int .i64 l.length,H'):=by
 rcases h with⟨rfl,rfl⟩|⟨k,o,c,rfl,h2⟩
 ·simp
 ·simp
theorem ORow.slice (h:ORow H v l): ∃a n c,v=.slice a n c:=by
 rcases h with⟨rfl,_⟩|⟨k,o,c,rfl,_⟩
 ·exact⟨_,_,_,rfl⟩
 ·exact⟨_,_,_,rfl⟩
theorem ORow.at (h:ORow H v l) {i:Nat} (hi:i<l.length): ∃k o p,(∀H':LH,lixa Tryz.prog 32 v (.int .i64 i) H'=some (ptr k o,H'))∧k<H.n∧HRow H p l[i].hdrs∧ ∀H':LH,H'.get k=H.get k→lld Tryz.prog 53 (ptr k o) H'=some (outv l[i] p):=by
 rcases h with⟨rfl,rfl⟩|⟨k,o,c,rfl,h2⟩
 ·simp at hi
 ·obtain⟨b,h2,h3,h5,h4⟩:=h2 (fun e=>by rw [e]at hi;simp at hi)
  obtain⟨p,g1,g2⟩:=h4 i hi
  refine⟨k,o+i*6,p,fun H'=>?_,h3,g2,fun H' e=>?_⟩
  ·have q:=eq_true (show(i:Int)<(l.length:Int) by omega)
   simp [q]
  ·rw [h2]at e
   have hle:o+i*6+6≤b.cells.length:=by have:=Nat.mul_le_mul_right 6 (show i+1≤l.length by omega);omega
   rw [lld_ptr e,aggO,szO]
   rw [show elO.n=6 from rfl,lldb_agg hle,g1]
theorem OG.orow (h:OG N H v l):ORow H v l:=by
 rcases h with h|⟨k,o,c,b,rfl,g1,g2,_,g5,g4⟩
 ·exact .inl h
 ·refine .inr ⟨k,o,c,rfl,fun _=>⟨b,g1,g2,g5,fun i hi=>?_⟩⟩
  obtain⟨p,h1,h2⟩:=g4 i hi
  exact⟨p,h1,h2.hrow⟩
end
end Go.Proofs.YteeiipildjgdbaaGreatDoor.Sc
namespace Tg.Sc
def cutO (o:Out):Out:=⟨o.kind,o.id,o.status,Tg.Hd.few o.hdrs 4,o.body.take 30,o.reason.take 20⟩
def joinS (b:Bool) (acc:List Out) (o:Out):List Out:=match acc[acc.length-1]? with
 |some q=>if o.kind=2∧q.kind=2∧(b=true→q.id=o.id)then acc.set (acc.length-1) ⟨q.kind,q.id,q.status,q.hdrs,q.body++o.body,q.reason⟩else acc++ [o]
 |none=>acc++ [o]
def joinP (b:Bool) (l:List Out):List Out:=l.foldl (joinS b) []
def bsum (l:List Out):Nat:=(l.map fun o=>o.body.length).sum
theorem bsum_step {l:List Out} {i:Nat} (h:i<l.length):bsum (l.take (i+1))=bsum (l.take i)+l[i].body.length:=by
 unfold bsum
 rw [List.take_succ_eq_append_getElem h,List.map_append,List.sum_append];simp
theorem joinP_step {b:Bool} {l:List Out} {i:Nat} (h:i<l.length):joinP b (l.take (i+1))=joinS b (joinP b (l.take i)) l[i]:=by
 unfold joinP
 rw [List.take_succ_eq_append_getElem h,List.foldl_append];rfl
theorem joinS_len {b:Bool} {acc:List Out} {o:Out} :(joinS b acc o).length≤acc.length+1:=by
 unfold joinS
 split
 ·split<;>simp
 ·simp
theorem joinP_len {b:Bool} {l:List Out} : ∀ {i:Nat},i≤l.length→(joinP b (l.take i)).length≤i
 |0,_=>by simp [joinP]
 |i+1,h=>by
  rw [joinP_step (by omega)]
  have:=joinP_len (b:=b) (l:=l) (i:=i) (by omega)
  have:=joinS_len (b:=b) (acc:=joinP b (l.take i)) (o:=l[i])
  omega
theorem joinP_body {b:Bool} {l:List Out} : ∀ {i:Nat},i≤l.length→ ∀q∈joinP b (l.take i),q.body.length≤bsum (l.take i)
 |0,_=>by simp [joinP]
 |i+1,h=>by
  rw [joinP_step (by omega),bsum_step (by omega)]
  have ih:=joinP_body (b:=b) (l:=l) (i:=i) (by omega)
  intro q hq
  unfold joinS at hq
  split at hq
  ·rename_i q0 hq0
   have h0:=ih q0 (List.mem_of_getElem? hq0)
   split at hq
   ·rcases List.mem_or_eq_of_mem_set hq with h1|rfl
    ·have:=ih q h1;omega
    ·simp;omega
   ·rcases List.mem_append.1 hq with h1|h1
    ·have:=ih q h1;omega
    ·rw [List.mem_singleton.1 h1];omega
  ·rcases List.mem_append.1 hq with h1|h1
   ·have:=ih q h1;omega
   ·rw [List.mem_singleton.1 h1];omega
theorem joinP_hdrs {b:Bool} {n:Nat} {l:List Out} (hn: ∀o∈l,o.hdrs.length≤n): ∀ {i:Nat},i≤l.length→ ∀q∈joinP b (l.take i),q.hdrs.length≤n
 |0,_=>by simp [joinP]
 |i+1,h=>by
  rw [joinP_step (by omega)]
  have ih:=joinP_hdrs (b:=b) hn (i:=i) (by omega)
  have hi:=hn _ (List.getElem_mem (show i<l.length by omega))
  intro q hq
  unfold joinS at hq
  split at hq
  ·rename_i q0 hq0
   have h0:=ih q0 (List.mem_of_getElem? hq0)
   split at hq
   ·rcases List.mem_or_eq_of_mem_set hq with h1|rfl
    ·exact ih q h1
    ·exact h0
   ·rcases List.mem_append.1 hq with h1|h1
    ·exact ih q h1
    ·rw [List.mem_singleton.1 h1];exact hi
  ·rcases List.mem_append.1 hq with h1|h1
   ·exact ih q h1
   ·rw [List.mem_singleton.1 h1];exact hi
def firstAt (q:Out→Bool):List Out→Nat→Int
 | [],_=> -1
 |a::l,i=>if q a=true then i else firstAt q l (i+1)
theorem firstAt_at (q:Out→Bool): ∀(l:List Out) (i:Nat),(firstAt q l i= -1∧l.filter (fun o=>!q o)=l)∨ ∃j:Nat,firstAt q l i=((i+j:Nat):Int)∧j<l.length∧(l.take (j+1)).filter (fun o=>!q o)=l.take j
 | [],i=>.inl ⟨rfl,rfl⟩
 |a::l,i=>by
  unfold firstAt
  cases hq:q a with
  |true=>exact .inr ⟨0,by simp,by simp,by simp [hq]⟩
  |false=>
   rw [if_neg (by simp)]
   rcases firstAt_at q l (i+1)with⟨h1,h2⟩|⟨j,h1,h2,h3⟩
   ·exact .inl ⟨h1,by rw [List.filter_cons,if_pos (by simp [hq]),h2]⟩
   ·exact .inr ⟨j+1,by rw [h1];congr 1;omega,by simpa using h2,by rw [List.take_succ_cons,List.filter_cons,if_pos (by simp [hq]),h3];rfl⟩
end Tg.Sc
namespace Go.Proofs.YteeiipildjgdbaaGreatDoor.Sc
open Go.Lg Go.Tg
section
variable {H H':LH} {N M:Nat} {v w p:Value} {l m:List Tg.Sc.Out} {hs:List Tg.Hd.Hdr} {o:Tg.Sc.Out} {id:Int} {q:Tg.Sc.Out→Bool} {g:FuncId}
theorem OOwn.sto (h:OOwn N M H v l) {i:Nat} (hi:i<l.length) (hN:N≤M): ∃k p,(∀H':LH,lixa Tryz.prog 32 v (.int .i64 i) H'=some (ptr k (i*6),H'))∧M≤k∧k<H.n∧ ¬offRow v k∧(∃b,H.get k=some b∧b.elem=53)∧HG N H p l[i].hdrs∧
  (∀H':LH,H'.get k=H.get k→lld Tryz.prog 53 (ptr k (i*6)) H'=some (outv l[i] p)∧lld Tryz.prog 3 (ptr k (i*6)) H'=some (.int .i64 l[i].kind)∧lld Tryz.prog 3 (ptr k (i*6+1)) H'=some (.int .i64 l[i].id)∧lld Tryz.prog 9 (ptr k (i*6+4)) H'=some (str l[i].body))∧
  (∀s:List UInt8,∃H2,lst Tryz.prog 9 (ptr k (i*6+4)) (str s) H=some (undef,H2)∧OOwn N M H2 v (l.set i ⟨l[i].kind,l[i].id,l[i].status,l[i].hdrs,s,l[i].reason⟩)∧H2.n=H.n∧ ∀q,q≠k→H2.get q=H.get q)∧
  (∀(o:Tg.Sc.Out) (p:Value),HG N H p o.hdrs→ ∃H2,lst Tryz.prog 53 (ptr k (i*6)) (outv o p) H=some (undef,H2)∧OOwn N M H2 v (l.set i o)∧H2.n=H.n∧ ∀q,q≠k→H2.get q=H.get q):=by
 obtain⟨k,cs,g1,g2,g3,g4,g5,⟨p,rfl,g6⟩,g7,g8,g9⟩:=OwnG.sto (P:=Tryz.prog) (t:=32) h hi hN noS Tryz.underlying32 szO
 refine⟨k,p,g1,g2,g3,g4,g5,g6,fun H' he=>?_,fun s=>?_,fun o p hp=>?_⟩
 ·obtain⟨h1,h2⟩:=g7 H' he
  exact⟨h1 aggO,h2 0 3 _ (by kernel_rfl) rfl,h2 1 3 _ (by kernel_rfl) rfl,h2 4 9 _ (by kernel_rfl) rfl⟩
 ·exact g8 4 (str s) 9 ⟨l[i].kind,l[i].id,l[i].status,l[i].hdrs,s,l[i].reason⟩ (by decide) (by kernel_rfl) rfl ⟨p,rfl,g6⟩
 ·exact g9 (outl o p) o ⟨p,rfl,hp⟩
theorem told42_ex (hr:ORow H v l) (hl:l.length≤9223372036854775807) (hz: ∀o∈l,o.hdrs.length≤9223372036854775807) (hN:N≤H.n):Gives Tryz.prog EJ 12 [v] H fun H' r=>OOwn N H.n H' r ((l.take 20).map Tg.Sc.cutO):=by
 refine gives_of ?_ (fun v H' hf h=>h.flat hf)
 refine LC_runs (P:=Tryz.prog) (E:=EJ) (f:=12) rfl Tryz.func12 rfl (by kernel_rfl) ?_
 have hlen:=fun G:LH=>hr.len (H':=G)
 obtain⟨va,vn,vc,rfl⟩:=hr.slice
 have h0:OOwn N H.n (H.new ⟨[],53,true⟩) (sl H.n 0 0) []:=⟨[],⟨by simp,.inr ⟨H.n,0,[],rfl,Nat.le_refl _,by simp,by simp,Nat.le_refl _,by simp⟩⟩,fun i h=>by simp at h⟩
 simp [bs0o]
 refine loop_ind (fun(i:Nat) fr' H'=> ∃w,fr' 0=.slice va vn vc∧fr' 3=w∧fr' 4=.int .i64 i∧i≤l.length∧i≤20∧H.le H'∧OOwn N H.n H' w ((l.take i).map Tg.Sc.cutO)) (fun i=>20-i) 0 ⟨_,by simp,by simp,by simp,Nat.zero_le _,Nat.zero_le _,le_refl.new,h0⟩ ?_
 rintro i fr' H' ⟨w,f0,f3,f4,hi,hi2,hle,hown⟩ ih
 have hw1:IntKind.i64.wrap ((i:Int)+1)=((i+1:Nat):Int):=by rw [wrapI (by omega) (by omega)];omega
 by_cases hlt:i<l.length
 ·have q0:=eq_true (show(i:Int)<(l.length:Int) by omega)
  by_cases hlt2:i<20
  ·have q2:=eq_true (show(i:Int)<20 by omega)
   obtain⟨k,o1,p,g1,g2,g3,g4⟩:=(hr.keep hle).at hlt
   have g5:=g4 H' rfl
   have hzi:=hz _ (List.getElem_mem hlt)
   have htk:(l.take (i+1)).map Tg.Sc.cutO=(l.take i).map Tg.Sc.cutO++ [Tg.Sc.cutO l[i]]:=by rw [List.take_succ_eq_append_getElem hlt,List.map_append];rfl
   obtain⟨pa,pn,pc,rfl⟩:=g3.slice
   obtain⟨H1,hH1⟩: ∃H1,H1=H'.new ⟨outl l[i] (.slice pa pn pc),53,true⟩:=⟨_,rfl⟩
   have n1:H1.n=H'.n+1:=by rw [hH1];rfl
   have le1:H'.le H1:=by rw [hH1];exact le_refl.new
   have b1:H1.get H'.n=some ⟨outl l[i] (.slice pa pn pc),53,true⟩:=by rw [hH1];exact get_new
   have hn:=hle.1
   obtain⟨p',H2,e2,o2⟩:=few_hl (H:=H1) (g3.keep le1.1 le1.2) hzi (c:=4) (by decide)
   have e2:LC Tryz.prog EJ 30 [.slice pa pn pc,.int .i64 4] H1=some (p',H2):=e2
   have le2:H1.le H2:=⟨o2.le,o2.old⟩
   have b2:=(le2.2 H'.n (by omega)).trans b1
   have hp':HG N H2 p' (Tg.Hd.few l[i].hdrs 4):=(HOwn.gown o2.row).row
   obtain⟨qa,qn,qc,rfl⟩:=hp'.slice
   have c1:=fun H:LH=>hcut_cl (H:=H) (s:=l[i].body) (k:=30) (by decide)
   have c2:=fun H:LH=>hcut_cl (H:=H) (s:=l[i].reason) (k:=20) (by decide)
   simp only [show((30:Int).toNat)=30 from rfl,show((20:Int).toNat)=20 from rfl]at c1 c2
   obtain⟨H3,hH3⟩: ∃H3,H3=H2.set H'.n ⟨outl (Tg.Sc.cutO l[i]) (.slice qa qn qc),53,true⟩:=⟨_,rfl⟩
   have own3:OOwn N H.n H3 w ((l.take i).map Tg.Sc.cutO):=((hown.le le1).le le2).keepO (c:=H'.n) (by rw [hH3];exact Nat.le_refl _) (hown.off_ge (Nat.le_refl _)) b2 (by show¬53=73;decide) (by omega) (fun k _ hne=>by rw [hH3];exact get_set_ne hne)
   have hp3:HG N H3 (.slice qa qn qc) (Tg.Hd.few l[i].hdrs 4):=hp'.keep1 (c:=H'.n) (by rw [hH3];exact Nat.le_refl _) b2 (by show 53≠73;decide) (fun h=>h) (by omega) (fun k _ hne=>by rw [hH3];exact get_set_ne hne)
   have n3:H3.n=H2.n:=by rw [hH3];rfl
   have n2:=le2.1
   have b3:H3.get H'.n=some ⟨outl (Tg.Sc.cutO l[i]) (.slice qa qn qc),53,true⟩:=by rw [hH3,get_set]
   obtain⟨w',H4,e3,r4,n4,k4,_,_⟩:=OOwn.app (o:=Tg.Sc.cutO l[i]) own3 hN (by omega) (by unfold maxElems;simp;omega) hp3
   have le4:H.le H4:=⟨by omega,fun k hk=>by rw [k4 k (by omega) (hown.off_lt hk),hH3,get_set_ne (by omega),le2.2 k (by omega),le1.2 k (by omega),hle.2 k hk]⟩
   have bs1:=bs1out (H:=H3) (o:=Tg.Sc.cutO l[i]) (p1:=qa) (p2:=qn) (p3:=qc)
   rw [←htk]at r4
   have hfin:=fun fr2 a0 a3 a4=>ih (i+1) fr2 H4 (by omega) ⟨w',a0,a3,a4,by omega,by omega,le4,r4⟩
   unfold Tg.Sc.cutO at b3 bs1 e3 hH3
   clear ih
   generalize l[i]=o at*
   generalize o.body.take 30=x1 at*
   generalize o.reason.take 20=x2 at*
   simp [f0,f3,f4,q0,q2,hlen,g1,g5,←hH1,b1,e2,c1,c2,b2,←hH3,b3,bs1,e3]
   refine hfin _ ?_ ?_ ?_
   all_goals simp [f0,f3,f4,hw1]
  ·have q2:=eq_false (show¬(i:Int)<20 by omega)
   have:i=20:=by omega
   subst this
   have q3:((20:Int)<(l.length:Int))=True:=q0
   simp [f0,f3,f4,q3,hlen]
   exact⟨hle,by simpa using hown⟩
 ·have q0:=eq_false (show¬(i:Int)<(l.length:Int) by omega)
  have:l.take 20=l.take i:=by rw [List.take_of_length_le (by omega),List.take_of_length_le (by omega)]
  rw [←this]at hown
  simp [f0,f3,f4,q0,hlen]
  exact⟨hle,by simpa using hown⟩
end
end Go.Proofs.YteeiipildjgdbaaGreatDoor.Sc
namespace Go.Lg
open Go.Tg Go.RowKit Go.MapKept
section
variable {P:Program} {T:Callee} {fr:Fr} {H:LH} {t kt et:TypeId} {kd:TypeDesc} {x y z:Operand} {k v w:Value} {l:Nat} {b:LB}
@[simp] theorem atom_map:atomB (.map none)=true:=rfl
@[simp] theorem known_map {o:Option Nat} :knownB (.map o)=true:=rfl
@[simp] theorem cell_map {o:Option Nat} :cellB (.map o)=true:=rfl
def lput1 (o:Option LH):Option (Value×LH):=o.map fun H'=>(undef,H')
@[simp] theorem lput1_some:lput1 (some H)=some (undef,H):=rfl
@[simp ↓] theorem lopx_makeMap:lopx P T (.makeMap t none) fr H=some (.map (some H.n),H.new ⟨[],0,true⟩):=rfl
@[simp ↓] theorem lopx_lookup {ok:Bool} :lopx P T (.lookup t x y ok) fr H=withH (llookup P t (ev fr x) (ev fr y) ok H) H:=rfl
@[simp ↓] theorem lopx_mapUpdate:lopx P T (.mapUpdate t x y z) fr H=lput1 (lmput P t (ev fr x) (ev fr y) (ev fr z) H):=rfl
theorem lmat_of (hu:P.underlying t=some (.map kt et)) (hk:P.underlying kt=some kd) (hb:H.get l=some b) (hy:keyB kd k=true) {r:Option (Nat×Value)} (hf:lmfind kd k b.cells 0=some r):lmat P t (.map (some l)) k H=some (l,b,r):=by
 unfold lmat;simp [hu,hk,hb,hy,hf]
theorem lmzero_of (hu:P.underlying t=some (.map kt et)) (hk:P.underlying kt=some kd) (hy:keyB kd k=true) (hz:zr P et=some w) (hw:flatB w=true):lmzero P t k=some w:=by
 unfold lmzero;simp [hu,hk,hz,hy,hw]
theorem look_no (hu:P.underlying t=some (.map kt et)) (hk:P.underlying kt=some kd) (hb:H.get l=some b) (hy:keyB kd k=true) (hf:lmfind kd k b.cells 0=some none) (hz:zr P et=some w) (hw:flatB w=true) {ok:Bool} :llookup P t (.map (some l)) k ok H=some (if ok then .tuple #[w,.bool false]else w):=by
 unfold llookup;rw [lmat_of hu hk hb hy hf];simp [lmzero_of hu hk hy hz hw]
@[simp] theorem mlen_nil (hu:P.underlying t=some (.map kt et)):lbuiltin P .len [t] [.map none] H=some (.int .i64 0,H):=by
 unfold lbuiltin;simp [hu]
@[simp] theorem ldelete {u:TypeId} {m:Value} :lbuiltin P .delete [t,u] [m,k] H=(lmdel P t m k H).map fun H'=>(.tuple #[],H'):=by
 unfold lbuiltin;rfl
@[simp] theorem lbuiltin_clear {x:Value} :lbuiltin P .clear [t] [x] H=(lclr P t x H).map fun H'=>(.tuple #[],H'):=by
 unfold lbuiltin;rfl
def mcells (j:IntKind):List (Int×Value×Nat)→List Value
 | []=> []
 |(a,v,s)::es=>.int j a::v::.int .i64 s::mcells j es
def mfind (a:Int):List (Int×Value×Nat)→Nat→Option (Nat×Value)
 | [],_=>none
 |(b,v,_)::es,i=>if a=b then some (i,v)else mfind a es (i+1)
@[simp] theorem mcells_len {j:IntKind} : ∀ {es:List (Int×Value×Nat)},(mcells j es).length=3*es.length
 | []=>rfl
 |_::es=>by simp [mcells,mcells_len (es:=es)];omega
@[simp] theorem find_int {j:IntKind} {a:Int} : ∀ {es:List (Int×Value×Nat)} {i:Nat},lmfind (.int j) (.int j a) (mcells j es) i=some (mfind a es i)
 | [],_=>rfl
 |(b,v,s)::es,i=>by
  unfold mcells lmfind mfind
  by_cases h:a=b
  ·subst h
   simp [Instr.sameNow]
  ·have:(a==b)=false:=by simpa using h
   simp [Instr.sameNow,h,this,find_int (es:=es)]
end
end Go.Lg
namespace Tg.Sc
def finalP (id:Int) (l:List Out):List UInt8:=match (((l.filter fun o=>decide (o.id=id)).filter fun o=>!decide (o.kind=6)).getLast?).map (·.kind)with
 |none=> [114,101,102,117,115,101,100]
 |some k=>if k=3 then [97,108,108,111,119,101,100]else if k=4 then [98,108,111,99,107,101,100]else if k=5 then [102,97,105,108,101,100]else [111,112,101,110]
end Tg.Sc
namespace Go.Proofs.YteeiipildjgdbaaGreatDoor.Sc
open Go.Lg Go.Tg
section
variable {H H':LH} {N M:Nat} {v w p:Value} {l m:List Tg.Sc.Out} {hs:List Tg.Hd.Hdr} {o:Tg.Sc.Out} {id:Int} {q:Tg.Sc.Out→Bool} {g:FuncId}
theorem joined_ex (hr:OG N H v l) (hl:l.length≤100000) (hz: ∀o∈l,o.hdrs.length≤1000000) (hb:Tg.Sc.bsum l≤80000000) (hN:N≤H.n):Gives Tryz.prog EJ 16 [v] H fun H' r=>OOwn N H.n H' r (Tg.Sc.joinP true l):=by
 refine gives_of ?_ (fun v H' hf h=>h.flat hf)
 refine LC_runs (P:=Tryz.prog) (E:=EJ) (f:=16) rfl Tryz.func16 rfl (by kernel_rfl) ?_
 have hlen:=fun G:LH=>hr.len (H':=G) (t:=32) Tryz.underlying32
 obtain⟨va,vn,vc,rfl⟩:=hr.slice
 simp [hlen]
 refine loop_ind (fun(i:Nat) fr' H'=> ∃w,fr' 3=w∧fr' 7=.slice va vn vc∧fr' 8=.int .i64 l.length∧fr' 9=.int .i64 i∧i≤l.length∧H.le H'∧OOwn N H.n H' w (Tg.Sc.joinP true (l.take i))) (fun i=>l.length-i) 0 ⟨_,by simp,by simp,by simp,by simp,Nat.zero_le _,le_refl,OwnG.nil⟩ ?_
 rintro i fr' H' ⟨w,f3,f7,f8,f9,hi,hle,hown⟩ ih
 have hw1:IntKind.i64.wrap ((i:Int)+1)=((i+1:Nat):Int):=by rw [wrapI (by omega) (by omega)];omega
 by_cases hlt:i<l.length
 ·have q0:=eq_true (show(i:Int)<(l.length:Int) by omega)
  obtain⟨k,o1,cs,g1,g2,⟨p,rfl,g3⟩,g4⟩:=(hr.le hle).at (t:=32) Tryz.underlying32 szO hlt
  have g5:=(g4 H' rfl).1 aggO
  have hzi:=hz _ (List.getElem_mem hlt)
  have hst:=Tg.Sc.joinP_step (b:=true) hlt
  have hal:=Tg.Sc.joinP_len (b:=true) (l:=l) (i:=i) (by omega)
  have hbl:=Tg.Sc.joinP_body (b:=true) (l:=l) (i:=i) (by omega)
  have hbs:Tg.Sc.bsum (l.take i)+l[i].body.length≤80000000:=by
   rw [←Tg.Sc.bsum_step hlt]
   refine Nat.le_trans ?_ hb
   unfold Tg.Sc.bsum
   rw [←List.take_append_drop (i+1) (l.map fun o=>o.body.length),List.sum_append,List.map_take]
   omega
  obtain⟨pa,pn,pc,rfl⟩:=g3.slice
  obtain⟨H1,hH1⟩: ∃H1,H1=H'.new ⟨outl l[i] (.slice pa pn pc),53,true⟩:=⟨_,rfl⟩
  have n1:H1.n=H'.n+1:=by rw [hH1];rfl
  have le1:H'.le H1:=by rw [hH1];exact le_refl.new
  have b1:H1.get H'.n=some ⟨outl l[i] (.slice pa pn pc),53,true⟩:=by rw [hH1];exact get_new
  have hn:=hle.1
  have own1:=hown.le le1
  obtain⟨c,H2,e2,le2,p',rfl,g6⟩:=copied_ex (g3.le le1) hzi (by omega)
  obtain⟨w',H3,e3,r3,n3,k3,_,_⟩:=OOwn.app ((hown.le le1).le le2) hN (by have:=le2.1;omega) (by unfold maxElems;omega) g6
  have le3:H.le H3:=⟨by have:=le2.1;omega,fun k hk=>by rw [k3 k (by have:=le2.1;omega) (hown.off_lt hk),le2.2 k (by omega),le1.2 k (by omega),hle.2 k hk]⟩
  obtain⟨qa,qn,qc,rfl⟩:=g6.slice
  have bs1:=bs1out (H:=H2) (o:=l[i]) (p1:=qa) (p2:=qn) (p3:=qc)
  have hlw:=fun G:LH=>hown.row.len (H':=G) (t:=32) Tryz.underlying32
  obtain⟨wa,wn,wc,rfl⟩:=hown.row.slice
  generalize l[i]=o at*
  generalize hac:Tg.Sc.joinP true (l.take i)=acc at*
  have hput: ∀(hj:Tg.Sc.joinS true acc o=acc++ [o]) (fr2:Fr) (a3:fr2 3=w') (a7:fr2 7=.slice va vn vc) (a8:fr2 8=.int .i64 l.length) (a9:fr2 9=.int .i64 ((i+1:Nat):Int)),_:=fun hj fr2 a3 a7 a8 a9=>ih (i+1) fr2 H3 (by omega) ⟨w',a3,a7,a8,a9,by omega,le3,by rw [hst,hj];exact r3⟩
  rcases Nat.eq_zero_or_pos acc.length with h0|h0
  ·have hnil:=List.eq_nil_of_length_eq_zero h0
   subst hnil
   have hfin:=hput rfl
   clear ih hput
   simp only [List.length_nil]at hlw
   simp [f3,f7,f8,f9,q0,hlw,g1,g5,←hH1,b1,e2,bs1,e3]
   refine hfin _ ?_ ?_ ?_ ?_
   all_goals simp [f3,f7,f8,f9,hw1]
  ·obtain⟨j,hj⟩: ∃j,acc.length=j+1:=⟨acc.length-1,by omega⟩
   have hjl:j<acc.length:=by omega
   obtain⟨k,pq,s1,s2,s3,s4,⟨bk,s5,s5'⟩,s6,s7,s8,_⟩:=OOwn.sto own1 hjl hN
   obtain⟨_,t1,t2,t3⟩:=s7 H1 rfl
   have hkn:k≠H'.n:=fun e=>s4 (e▸hown.off_ge (Nat.le_refl _))
   obtain⟨H5,u1,u2,u3,u4⟩:=s8 (acc[j].body++o.body)
   have hjs:Tg.Sc.joinS true acc o=if o.kind=2∧acc[j].kind=2∧acc[j].id=o.id then acc.set j ⟨acc[j].kind,acc[j].id,acc[j].status,acc[j].hdrs,acc[j].body++o.body,acc[j].reason⟩else acc++ [o]:=by
    unfold Tg.Sc.joinS
    rw [hj,Nat.add_sub_cancel,List.getElem?_eq_getElem hjl]
    simp
   have hbj:=hbl _ (List.getElem_mem hjl)
   have cct:=cc (a:=acc[j].body) (b:=o.body) (by omega)
   have le5:H.le H5:=⟨by omega,fun q hq=>by rw [u4 q (by omega),le1.2 q (by omega),hle.2 q hq]⟩
   have hup: ∀(hc:o.kind=2∧acc[j].kind=2∧acc[j].id=o.id) (fr2:Fr) (a3:fr2 3=.slice wa wn wc) (a7:fr2 7=.slice va vn vc) (a8:fr2 8=.int .i64 l.length) (a9:fr2 9=.int .i64 ((i+1:Nat):Int)),_:=fun hc fr2 a3 a7 a8 a9=>ih (i+1) fr2 H5 (by omega) ⟨.slice wa wn wc,a3,a7,a8,a9,by omega,le5,by rw [hst,hjs,if_pos hc];exact u2⟩
   have hput2: ¬(o.kind=2∧acc[j].kind=2∧acc[j].id=o.id)→_:=fun hc=>hput (by rw [hjs,if_neg hc])
   rw [hj]at hlw
   have hw2:IntKind.i64.wrap (j:Int)=(j:Int):=wrapI (by omega) (by omega)
   have h0j:(0:Int)≤j:=by omega
   clear ih hput hst hjs hac hbl hal s7 s8
   generalize acc[j]=a at*
   by_cases c1:o.kind=2
   ·by_cases c2:a.kind=2
    ·by_cases c3:a.id=o.id
     ·have hfin:=hup ⟨c1,c2,c3⟩
      have c1:=eq_true c1
      have c2:=eq_true c2
      have c3:=eq_true c3
      clear hup hput2
      simp [f3,f7,f8,f9,q0,hlw,hw2,g1,g5,←hH1,b1,s1,t1,t2,t3,c1,c2,c3,cct,u1]
      refine hfin _ ?_ ?_ ?_ ?_
      all_goals simp [f3,f7,f8,f9,hw1]
     ·have hfin:=hput2 (fun h=>c3 h.2.2)
      have c1:=eq_true c1
      have c2:=eq_true c2
      have c3:=eq_false c3
      clear hup hput2
      simp [f3,f7,f8,f9,q0,hlw,hw2,g1,g5,←hH1,b1,s1,t1,t2,t3,c1,c2,c3,e2,bs1,e3]
      refine hfin _ ?_ ?_ ?_ ?_
      all_goals simp [f3,f7,f8,f9,hw1]
    ·have hfin:=hput2 (fun h=>c2 h.2.1)
     have c1:=eq_true c1
     have c2:=eq_false c2
     clear hup hput2
     simp [f3,f7,f8,f9,q0,hlw,hw2,g1,g5,←hH1,b1,s1,t1,t2,t3,c1,c2,e2,bs1,e3]
     refine hfin _ ?_ ?_ ?_ ?_
     all_goals simp [f3,f7,f8,f9,hw1]
   ·have hfin:=hput2 (fun h=>c1 h.1)
    have c1:=eq_false c1
    clear hup hput2
    simp [f3,f7,f8,f9,q0,hlw,hw2,g1,g5,←hH1,b1,s1,t1,t2,t3,c1,e2,bs1,e3]
    refine hfin _ ?_ ?_ ?_ ?_
    all_goals simp [f3,f7,f8,f9,hw1]
 ·have q0:=eq_false (show¬(i:Int)<(l.length:Int) by omega)
  have:i=l.length:=by omega
  subst this
  rw [List.take_length]at hown
  simp [f3,f8,f9,q0]
  exact⟨hle,hown⟩
theorem oindex_cl (hg: ∀(H:LH) (o:Tg.Sc.Out) (p:Value),cellB p=true→LC Tryz.prog EJ g [outv o p] H=some (.bool (q o),H)) (hr:OG N H v l) (hl:l.length≤1000000):LC Tryz.prog EJ 57 [v,.func (.func g) #[] #[]] H=some (.int .i64 (Tg.Sc.firstAt q l 0),H):=by
 refine LC_pure rfl Tryz.func57 rfl (by kernel_rfl) rfl ?_
 have hlen:=fun G:LH=>hr.len (H':=G) (t:=32) Tryz.underlying32
 obtain⟨va,vn,vc,rfl⟩:=hr.slice
 obtain⟨x,hx⟩: ∃x,x=Tg.Sc.firstAt q l 0:=⟨_,rfl⟩
 rw [←hx]
 simp [hlen]
 refine loop_ind (fun(i:Nat) fr' H'=>fr' 0=.slice va vn vc∧fr' 1=.func (.func g) #[] #[]∧fr' 7=.int .i64 l.length∧fr' 8=.int .i64 i∧i≤l.length∧x=Tg.Sc.firstAt q (l.drop i) i∧H'=H) (fun i=>l.length-i) 0 ⟨by simp,by simp,by simp,by simp,Nat.zero_le _,hx,rfl⟩ ?_
 rintro i fr' H' ⟨h0,h1,h7,h8,hi,hc,rfl⟩ ih
 by_cases hlt:i<l.length
 ·have q0:=eq_true (show(i:Int)<(l.length:Int) by omega)
  have hw:IntKind.i64.wrap ((i:Int)+1)=((i+1:Nat):Int):=by rw [wrapI (by omega) (by omega)];omega
  obtain⟨k,o1,cs,g1,g2,⟨p,rfl,g3⟩,g4⟩:=hr.at (t:=32) Tryz.underlying32 szO hlt
  have g5:=(g4 H' rfl).1 aggO
  have hcp:=g3.cell
  have hgo:=fun G:LH=>hg G l[i] p hcp
  rw [List.drop_eq_getElem_cons hlt]at hc
  obtain⟨pa,pn,pc,rfl⟩:=g3.slice
  generalize l[i]=a at*
  unfold Tg.Sc.firstAt at hc
  cases hf:q a with
  |false=>
   rw [hf,if_neg (by decide)]at hc
   rw [hf]at hgo
   simp [h0,h1,h7,h8,q0,g1,g5,hgo]
   refine ih (i+1) _ _ (by omega) ⟨?_,?_,?_,?_,by omega,hc,rfl⟩
   all_goals simp [h0,h1,h7,hw]
  |true=>
   rw [hf,if_pos rfl]at hc
   rw [hf]at hgo
   subst hc
   simp [h0,h1,h7,h8,q0,g1,g5,hgo]
 ·have q0:=eq_false (show¬(i:Int)<(l.length:Int) by omega)
  rw [List.drop_of_length_le (by omega)]at hc
  have hc:x= -1:=hc
  subst hc
  simp [h0,h1,h7,h8,q0]
theorem odel_ex (hg: ∀(H:LH) (o:Tg.Sc.Out) (p:Value),cellB p=true→LC Tryz.prog EJ g [outv o p] H=some (.bool (q o),H)) (hv:OOwn N M H v l) (hl:l.length≤1000000) (hN:N≤M) (hM:M≤H.n):
  ∃v' H',LC Tryz.prog EJ 44 [v,.func (.func g) #[] #[]] H=some (v',H')∧OOwn N M H' v' (l.filter fun o=>!q o)∧H.n≤H'.n∧ ∀k,k<M→H'.get k=H.get k:=by
 have key: ∃r,LC Tryz.prog EJ 44 [v,.func (.func g) #[] #[]] H=some (Lg.trunc H r)∧(OOwn N M r.2 r.1 (l.filter fun o=>!q o)∧H.n≤r.2.n∧ ∀k,k<M→r.2.get k=H.get k):=by
  refine LC_runs (P:=Tryz.prog) (E:=EJ) (f:=44) rfl Tryz.func44 rfl (by kernel_rfl) ?_
  have hi:=oindex_cl hg hv.row hl
  rcases Tg.Sc.firstAt_at q l 0 with⟨e1,e2⟩|⟨j0,e1,e2,e3⟩
  ·rw [e1]at hi
   obtain⟨va,vn,vc,rfl⟩:=hv.row.slice
   simp [hi]
   rw [e2]
   exact hv
  ·rw [Nat.zero_add]at e1
   rw [e1]at hi
   have q1:=eq_false (show¬(j0:Int)= -1 by omega)
   have hw0:IntKind.i64.wrap ((j0:Int)+1)=((j0+1:Nat):Int):=by rw [wrapI (by omega) (by omega)];omega
   obtain⟨va,vn,vc,rfl⟩:=hv.row.slice
   simp [hi,q1]
   refine loop_ind (fun(j:Nat) fr' H'=>fr' 0=.slice va vn vc∧fr' 1=.func (.func g) #[] #[]∧fr' 6=.int .i64 j∧j≤l.length∧H.n≤H'.n∧(∀k,k<M→H'.get k=H.get k)∧ ∃(i:Nat) (m:List Tg.Sc.Out),fr' 5=.int .i64 i∧OOwn N M H' (.slice va vn vc) m∧m.length=l.length∧i<j∧m.take i=(l.take j).filter (fun o=>!q o)∧m.drop j=l.drop j) (fun j=>l.length-j) (j0+1) ⟨by simp,by simp,by simp [hw0],by omega,Nat.le_refl _,fun _ _=>rfl,j0,l,by simp,hv,rfl,by omega,e3.symm,rfl⟩ ?_
   rintro j fr' H' ⟨f0,f1,f6,hj,hn2,hold,i,m,f5,ho,hml,hij,hmt,hmd⟩ ih
   have hlen:=fun G:LH=>ho.row.len (H':=G) (t:=32) Tryz.underlying32
   rw [hml]at hlen
   by_cases hlt:j<l.length
   ·have qj:=eq_true (show(j:Int)<(l.length:Int) by omega)
    have hw1:IntKind.i64.wrap ((j:Int)+1)=((j+1:Nat):Int):=by rw [wrapI (by omega) (by omega)];omega
    have hw2:IntKind.i64.wrap ((i:Int)+1)=((i+1:Nat):Int):=by rw [wrapI (by omega) (by omega)];omega
    have hltm:j<m.length:=by omega
    obtain⟨k,o1,cs,g1,g2,⟨p,rfl,g3⟩,g4⟩:=ho.row.at (t:=32) Tryz.underlying32 szO hltm
    have g5:=(g4 H' rfl).1 aggO
    have emj:m[j]=l[j]:=by
     have h:=congrArg (fun z=>z[0]?) hmd
     simp only [List.getElem?_drop,Nat.add_zero]at h
     rw [List.getElem?_eq_getElem hltm,List.getElem?_eq_getElem hlt]at h
     injection h
    rw [emj]at g5 g3
    have hnew:(l.take (j+1)).filter (fun o=>!q o)=(l.take j).filter (fun o=>!q o)++(if q l[j]=true then []else [l[j]]):=by
     rw [List.take_succ_eq_append_getElem hlt,List.filter_append,List.filter_cons]
     cases q l[j]<;>rfl
    have hmd1:m.drop (j+1)=l.drop (j+1):=by
     rw [←List.drop_drop,hmd,List.drop_drop]
    have hcp:=g3.cell
    have hgo:=fun G:LH=>hg G l[j] p hcp
    obtain⟨pa,pn,pc,rfl⟩:=g3.slice
    obtain⟨H1,hH1⟩: ∃H1,H1=H'.new ⟨outl l[j] (.slice pa pn pc),53,true⟩:=⟨_,rfl⟩
    have n1:H1.n=H'.n+1:=by rw [hH1];rfl
    have le1:H'.le H1:=by rw [hH1];exact le_refl.new
    have b1:H1.get H'.n=some ⟨outl l[j] (.slice pa pn pc),53,true⟩:=by rw [hH1];exact get_new
    have ho1:=ho.le le1
    obtain⟨k2,pq,s1,s2,s3,s4,⟨bk,s5,s5'⟩,s6,s7,s8,s9⟩:=OOwn.sto ho1 (i:=i) (by omega) hN
    obtain⟨H2,u1,u2,u3,u4⟩:=s9 l[j] (.slice pa pn pc) (g3.le le1)
    clear s7 s8 s9
    generalize l[j]=x at*
    cases hx:q x with
    |true=>
     rw [hx]at hgo hnew
     rw [if_pos rfl,List.append_nil]at hnew
     have hfin:=fun fr2 a0 a1 a6 a5=>ih (j+1) fr2 H1 (by omega) ⟨a0,a1,a6,by omega,by omega,fun k hk=>by rw [le1.2 k (by omega),hold k hk],i,m,a5,ho1,hml,by omega,by rw [hmt,hnew],hmd1⟩
     clear ih
     simp [f0,f1,f6,hlen,qj,g1,g5,←hH1,b1,hgo]
     refine hfin _ ?_ ?_ ?_ ?_
     all_goals simp [f0,f1,f5,hw1]
    |false=>
     rw [hx]at hgo hnew
     rw [if_neg (by decide)]at hnew
     have hfin:=fun fr2 a0 a1 a6 a5=>ih (j+1) fr2 H2 (by omega) ⟨a0,a1,a6,by omega,by omega,fun k hk=>by rw [u4 k (by omega),le1.2 k (by omega),hold k hk],i+1,m.set i x,a5,u2,by rw [List.length_set];exact hml,by omega,by rw [hnew,←hmt,List.take_succ_eq_append_getElem (by rw [List.length_set];omega),List.take_set_of_le (Nat.le_refl _)];simp,by rw [List.drop_set_of_lt (by omega)];exact hmd1⟩
     clear ih
     simp [f0,f1,f5,f6,hlen,qj,g1,g5,←hH1,b1,hgo,s1,u1]
     refine hfin _ ?_ ?_ ?_ ?_
     all_goals simp [f0,f1,f5,hw1,hw2]
   ·have qj:=eq_false (show¬(j:Int)<(l.length:Int) by omega)
    have hjl:j=l.length:=by omega
    rw [List.take_of_length_le (show l.length≤j by omega)]at hmt
    obtain⟨vd,H2,v',c1,c2,c3,c4,c5,c6⟩:=OwnG.clr (P:=Tryz.prog) (t:=32) (z:=.agg #[.int .i64 0,.int .i64 0,.int .i64 0,.slice none 0 0,str [],str []]) ho (i:=i) (by omega) hN noS Tryz.underlying32 szO (by kernel_rfl) rfl rfl
    rw [hmt]at c4
    simp [f0,f5,f6,hlen,qj,c1,c2,c3]
    exact⟨c4,by omega,fun a ha=>by rw [c6 a (ho.off_lt ha)];exact hold a ha⟩
 obtain⟨⟨u,H1⟩,e,d1,d2,d3⟩:=key
 rcases trunc_or u H H1 with g|⟨g,hf,_⟩
 ·exact⟨u,H1,by rw [e,g],d1,d2,d3⟩
 ·exact⟨u,H,by rw [e,g],d1.flat hf,Nat.le_refl _,fun _ _=>rfl⟩
theorem refused_cl (hp:cellB p=true):LC Tryz.prog EJ 45 [outv o p] H=some (.bool (decide (o.kind=6)),H):=by
 refine LC_pure rfl Tryz.func45 rfl (by kernel_rfl) rfl ?_
 simp [hp,le_refl.new]
theorem final_cl (hr:OG N H v l) (hl:l.length≤100000) (hz: ∀o∈l,o.hdrs.length≤1000000) (hN:N≤H.n):LC Tryz.prog EJ 34 [.int .i64 id,v] H=some (str (Tg.Sc.finalP id l),H):=by
 refine LC_pure rfl Tryz.func34 rfl (by kernel_rfl) (by simp) ?_
 obtain⟨w,H1,e1,le1,o1⟩:=of_ex (id:=id) hr hl hz hN
 obtain⟨u,H2,e2,o2,n2,k2⟩:=odel_ex (g:=45) (q:=fun o=>decide (o.kind=6)) (fun H o p hp=>refused_cl hp) o1 (Nat.le_trans (List.length_filter_le _ _) (by omega)) hN le1.1
 have le2:H.le H2:=⟨by have:=le1.1;omega,fun k hk=>by rw [k2 k hk,le1.2 k hk]⟩
 unfold Tg.Sc.finalP
 have hll:((l.filter fun o=>decide (o.id=id)).filter fun o=>!decide (o.kind=6)).length≤l.length:=Nat.le_trans (List.length_filter_le _ _) (List.length_filter_le _ _)
 generalize (l.filter fun o=>decide (o.id=id)).filter (fun o=>!decide (o.kind=6))=m at*
 have hlen:=fun G:LH=>o2.row.len (H':=G) (t:=32) Tryz.underlying32
 obtain⟨va,vn,vc,rfl⟩:=hr.slice
 obtain⟨ua,un,uc,rfl⟩:=o1.row.slice
 obtain⟨ta,tn,tc,rfl⟩:=o2.row.slice
 rcases Nat.eq_zero_or_pos m.length with h0|h0
 ·have hnil:=List.eq_nil_of_length_eq_zero h0
  subst hnil
  simp only [List.length_nil]at hlen
  simp [e1,e2,hlen]
  exact le2
 ·obtain⟨j,hj⟩: ∃j,m.length=j+1:=⟨m.length-1,by omega⟩
  have hjl:j<m.length:=by omega
  obtain⟨k,pq,s1,s2,s3,s4,_,s6,s7,_⟩:=OOwn.sto o2 hjl hN
  obtain⟨_,t1,_⟩:=s7 H2 rfl
  have hgl:m.getLast?=some m[j]:=by rw [List.getLast?_eq_getElem?,hj,Nat.add_sub_cancel,List.getElem?_eq_getElem hjl]
  rw [hgl]
  rw [hj]at hlen
  have hw2:IntKind.i64.wrap (j:Int)=(j:Int):=wrapI (by omega) (by omega)
  have hne:((j:Int)+1=0)=False:=eq_false (by omega)
  clear s7
  generalize m[j]=a at*
  simp only [Option.map_some]
  by_cases c3:a.kind=3
  ·rw [if_pos c3]
   have c3:=eq_true c3
   simp [e1,e2,hlen,hne,hw2,s1,t1,c3]
   exact le2
  ·rw [if_neg c3]
   have c3:=eq_false c3
   by_cases c4:a.kind=4
   ·rw [if_pos c4]
    have c4:=eq_true c4
    simp [e1,e2,hlen,hne,hw2,s1,t1,c3,c4]
    exact le2
   ·rw [if_neg c4]
    have c4:=eq_false c4
    by_cases c5:a.kind=5
    ·rw [if_pos c5]
     have c5:=eq_true c5
     simp [e1,e2,hlen,hne,hw2,s1,t1,c3,c4,c5]
     exact le2
    ·rw [if_neg c5]
     have c5:=eq_false c5
     simp [e1,e2,hlen,hne,hw2,s1,t1,c3,c4,c5]
     exact le2
theorem Final_cl (hr:OG N H v l) (hl:l.length≤100000) (hz: ∀o∈l,o.hdrs.length≤1000000) (hN:N≤H.n):LC Tryz.prog EJ 18 [.int .i64 id,v] H=some (str (Tg.Sc.finalP id l),H):=by
 refine LC_pure rfl Tryz.func18 rfl (by kernel_rfl) (by simp) ?_
 have e:=final_cl (id:=id) hr hl hz hN
 simp [e,le_refl]
theorem Of_ex (hr:OG N H v l) (hl:l.length≤100000) (hz: ∀o∈l,o.hdrs.length≤1000000) (hN:N≤H.n):Gives Tryz.prog EJ 14 [.int .i64 id,v] H fun H' r=>OOwn N H.n H' r (l.filter fun o=>decide (o.id=id)):=by
 refine gives_of ?_ (fun v H' hf h=>h.flat hf)
 refine LC_runs (P:=Tryz.prog) (E:=EJ) (f:=14) rfl Tryz.func14 rfl (by kernel_rfl) ?_
 obtain⟨w,H1,e1,le1,o1⟩:=of_ex (id:=id) hr hl hz hN
 simp [e1]
 exact⟨le1,o1⟩
end
def playT:List UInt8:= [115,101,116,117,112,32,111,114,98,32,49,52,52,53,32,57,32,50,32,50,10,101,110,100,32,49,10]
def playE:Tg.Sc.Ev:=⟨4,1,[],[],[],0,0,[],[]⟩
theorem play_read:Tg.Sc.readP playT=(livesC,[playE],0,0):=by
 have h:=Tg.Sc.read_print (c:=livesC) (l:= [playE]) (by decide+kernel) (by decide+kernel) (by decide+kernel)
 have e:Tg.Sc.printT livesC [playE]=playT:=by decide+kernel
 rw [e]at h
 exact h
section
variable {H H':LH} {s:List UInt8} {v p:Value} {id k:Int}
theorem bs1o:lbuildSlice Tryz.prog 32 1 [(0,.agg ⟨[.int .i64 k,.int .i64 id,.int .i64 0,.slice none 0 0,str [],str s]⟩)] H=some (sl H.n 1 1,H.new ⟨[.int .i64 k,.int .i64 id,.int .i64 0,.slice none 0 0,str [],str s],53,true⟩):=by
 unfold lbuildSlice
 simp [Instr.fill,Value.cells,Array.range]
 rfl
theorem told39_l:LC Tryz.prog EJ 75 [.int .i64 k,.int .i64 id,str s] H=some (sl H.n 1 1,H.new ⟨[.int .i64 k,.int .i64 id,.int .i64 0,.slice none 0 0,str [],str s],53,true⟩):=by
 have key: ∃r,LC Tryz.prog EJ 75 [.int .i64 k,.int .i64 id,str s] H=some (Lg.trunc H r)∧r=(sl H.n 1 1,H.new ⟨[.int .i64 k,.int .i64 id,.int .i64 0,.slice none 0 0,str [],str s],53,true⟩):=by
  refine LC_runs (P:=Tryz.prog) (E:=EJ) (f:=75) rfl Tryz.func75 rfl (by kernel_rfl) ?_
  simp [bs1o]
 obtain⟨r,e,rfl⟩:=key
 rw [e,trunc_no (by simp [flatB,flat1B,atomB])]
theorem vfill {m:Nat} :lfill Tryz.prog 124 [.map none,.int .i64 0,.int .i64 0,.int .i64 0] [(0,.map (some m)),(2,.int .i64 2)]=some [.map (some m),.int .i64 0,.int .i64 2,.int .i64 0]:=by
 rw [lfill_cell (o:=0) (n:=1) (g:=false) (by simp) rfl rfl (by simp)]
 simp
theorem vnew_ex: ∃r,LC Tryz.prog EJ 52 [.int .i64 2] H=some (Lg.trunc H r)∧r=(.tuple #[ptr (H.n+1) 0,.int .i64 0],(H.new ⟨[],0,true⟩).new ⟨[.map (some H.n),.int .i64 0,.int .i64 2,.int .i64 0],124,true⟩):=by
 refine LC_runs (P:=Tryz.prog) (E:=EJ) (f:=52) rfl Tryz.func52 rfl (by kernel_rfl) ?_
 simp [vfill]
theorem vnew_l:LC Tryz.prog EJ 52 [.int .i64 2] H=some (.tuple #[ptr (H.n+1) 0,.int .i64 0],(H.new ⟨[],0,true⟩).new ⟨[.map (some H.n),.int .i64 0,.int .i64 2,.int .i64 0],124,true⟩):=by
 obtain⟨r,e,rfl⟩:=vnew_ex (H:=H)
 rw [e,trunc_no (by simp [flatB,flat1B,atomB])]
theorem ffill {m q:Nat} :lfill Tryz.prog 92 [.bool false,.int .i64 0,.int .i64 0,.int .i64 0,.int .i64 0,.map none,.pointer none,.int .i64 0,.int .i64 0,.int .i64 0] [(0,.agg #[.bool false,.int .i64 1445,.int .i64 9,.int .i64 2,.int .i64 2]),(1,.map (some m)),(2,ptr q 0)]=some [.bool false,.int .i64 1445,.int .i64 9,.int .i64 2,.int .i64 2,.map (some m),ptr q 0,.int .i64 0,.int .i64 0,.int .i64 0]:=by
 rw [lfill_agg (o:=0) (n:=5) (g:=true) (by simp) rfl (by simp),lfill_cell (o:=5) (n:=1) (g:=false) (by simp) rfl rfl (by simp [splice])]
 simp [splice]
def fcs (m q:Nat) (a b c:Int):List Value:= [.bool false,.int .i64 1445,.int .i64 9,.int .i64 2,.int .i64 2,.map (some m),ptr q 0,.int .i64 a,.int .i64 b,.int .i64 c]
theorem fnew_ex: ∃r,LC Tryz.prog EJ 41 [suv livesC] H=some (Lg.trunc H r)∧r=(.tuple #[ptr (H.n+4) 0,.int .i64 0],((((H.new ⟨[.bool false,.int .i64 1445,.int .i64 9,.int .i64 2,.int .i64 2],64,true⟩).new ⟨[],0,true⟩).new ⟨[.map (some (H.n+1)),.int .i64 0,.int .i64 2,.int .i64 0],124,true⟩).new ⟨[],0,true⟩).new ⟨fcs (H.n+3) (H.n+2) 0 0 0,92,true⟩):=by
 refine LC_runs (P:=Tryz.prog) (E:=EJ) (f:=41) rfl Tryz.func41 rfl (by kernel_rfl) ?_
 have hg:=fun G:LH=>fgood_cl (H:=G) (c:=livesC)
 have hv:=fun G:LH=>vnew_l (H:=G)
 simp [livesC]at hg⊢
 have hf:Tg.Sc.fineS ⟨false,1445,9,2,2⟩=true:=by decide
 have g3: ∀A B C:LB,(((H.new A).new B).new C).get H.n=some A:=fun A B C=>by rw [get_new_ne (by show H.n≠H.n+1+1;omega),get_new_ne (by show H.n≠H.n+1;omega),get_new]
 simp [hg,hv,hf,g3,ffill,fcs]
theorem fnew_l:LC Tryz.prog EJ 41 [suv livesC] H=some (.tuple #[ptr (H.n+4) 0,.int .i64 0],((((H.new ⟨[.bool false,.int .i64 1445,.int .i64 9,.int .i64 2,.int .i64 2],64,true⟩).new ⟨[],0,true⟩).new ⟨[.map (some (H.n+1)),.int .i64 0,.int .i64 2,.int .i64 0],124,true⟩).new ⟨[],0,true⟩).new ⟨fcs (H.n+3) (H.n+2) 0 0 0,92,true⟩):=by
 obtain⟨r,e,rfl⟩:=fnew_ex (H:=H)
 rw [e,trunc_no (by simp [flatB,flat1B,atomB])]
end
section
variable {H H':LH} {s:List UInt8} {v p:Value} {id k:Int}
theorem check_l (hp:cellB p=true):LC Tryz.prog EJ 100 [evv playE p] H=some (str [],H):=by
 refine LC_pure rfl Tryz.func100 rfl (by kernel_rfl) rfl ?_
 simp [playE,hp,le_refl.new]
theorem refuse_ex {f m q:Nat} {a b c:Int} (hg:H.get f=some ⟨fcs m q a 0 c,92,true⟩): ∃r,LC Tryz.prog EJ 101 [ptr f 0,.int .i64 id,str s] H=some (Lg.trunc H r)∧r=(sl H.n 1 1,(H.set f ⟨fcs m q a 1 c,92,true⟩).new ⟨[.int .i64 6,.int .i64 id,.int .i64 0,.slice none 0 0,str [],str s],53,true⟩):=by
 refine LC_runs (P:=Tryz.prog) (E:=EJ) (f:=101) rfl Tryz.func101 rfl (by kernel_rfl) ?_
 have ht:=fun G:LH=>told39_l (H:=G) (k:=6) (id:=id) (s:=s)
 have w:IntKind.i64.wrap 1=1:=by decide
 simp [hg,fcs,ht,w]
theorem one_ex {f m q:Nat} {a b c:Int} (hp:cellB p=true) (hg:H.get f=some ⟨fcs m q a 0 c,92,true⟩) (hm:H.get m=some ⟨[],0,true⟩) (h1:f<H.n) (h2:m<H.n) (h3:f≠m): ∃r,LC Tryz.prog EJ 104 [ptr f 0,evv playE p] H=some (Lg.trunc H r)∧r=(sl (H.n+1) 1 1,((H.new ⟨[.int .i64 4,.int .i64 1,str [],str [],str [],.int .i64 0,.int .i64 0,p,str []],83,true⟩).set f ⟨fcs m q a 1 c,92,true⟩).new ⟨[.int .i64 6,.int .i64 1,.int .i64 0,.slice none 0 0,str [],str [117,110,107,110,111,119,110]],53,true⟩):=by
 refine LC_runs (P:=Tryz.prog) (E:=EJ) (f:=104) rfl Tryz.func104 rfl (by kernel_rfl) ?_
 have e1:=fun B:LB=>(get_new_ne (H:=H) (b:=B) (l:=f) (by omega)).trans hg
 have e2:=fun B:LB=>(get_new_ne (H:=H) (b:=B) (l:=m) (by omega)).trans hm
 have hl:=fun B:LB=>look_no (P:=Tryz.prog) (t:=90) (k:=.int .i64 1) (ok:=false) Tryz.underlying90 Tryz.underlying3 (e2 B) (by rfl) (by rfl) (w:=.pointer none) (by simp) (by rfl)
 simp only [Bool.false_eq_true,if_false]at hl
 have hr:=fun B:LB=>refuse_ex (H:=H.new B) (f:=f) (b:=0) (id:=1) (s:= [117,110,107,110,111,119,110]) (e1 B)
 have hr2: ∀B:LB,LC Tryz.prog EJ 101 [ptr f 0,.int .i64 1,str [117,110,107,110,111,119,110]] (H.new B)=some (sl (H.n+1) 1 1,((H.new B).set f ⟨fcs m q a 1 c,92,true⟩).new ⟨[.int .i64 6,.int .i64 1,.int .i64 0,.slice none 0 0,str [],str [117,110,107,110,111,119,110]],53,true⟩):=fun B=>by
  obtain⟨r,e,rfl⟩:=hr B
  rw [e,trunc_no (by simp [flatB,flat1B,atomB])];rfl
 simp only [fcs]at e1
 simp [playE,hp,e1,hl,hr2]
theorem one_l {f m q:Nat} {a c:Int} (hp:cellB p=true) (hg:H.get f=some ⟨fcs m q a 0 c,92,true⟩) (hm:H.get m=some ⟨[],0,true⟩) (h1:f<H.n) (h2:m<H.n) (h3:f≠m):LC Tryz.prog EJ 104 [ptr f 0,.agg #[.int .i64 4,.int .i64 1,str [],str [],str [],.int .i64 0,.int .i64 0,p,str []]] H=some (sl (H.n+1) 1 1,((H.new ⟨[.int .i64 4,.int .i64 1,str [],str [],str [],.int .i64 0,.int .i64 0,p,str []],83,true⟩).set f ⟨fcs m q a 1 c,92,true⟩).new ⟨[.int .i64 6,.int .i64 1,.int .i64 0,.slice none 0 0,str [],str [117,110,107,110,111,119,110]],53,true⟩):=by
 obtain⟨r,e,rfl⟩:=one_ex (b:=0) hp hg hm h1 h2 h3
 rw [trunc_no (by simp [flatB,flat1B,atomB])]at e
 exact e
theorem check_l2 (hp:cellB p=true):LC Tryz.prog EJ 100 [.agg #[.int .i64 4,.int .i64 1,str [],str [],str [],.int .i64 0,.int .i64 0,p,str []]] H=some (str [],H):=check_l hp
abbrev unk39:LB:=⟨[.int .i64 6,.int .i64 1,.int .i64 0,.slice none 0 0,str [],str [117,110,107,110,111,119,110]],53,true⟩
def Done (H:LH) (f:Nat) (r:Value×LH):Prop:= ∃k,r.1=sl k 1 1∧r.2.get k=some unk39∧k<r.2.n∧H.n≤r.2.n∧ ∀j,j<H.n→j≠f→r.2.get j=H.get j
theorem do_ex {f m q:Nat} {c:Int} (hp:cellB p=true) (hg:H.get f=some ⟨fcs m q 0 0 c,92,true⟩) (hm:H.get m=some ⟨[],0,true⟩) (h1:f<H.n) (h2:m<H.n) (h3:f≠m): ∃r,LC Tryz.prog EJ 76 [ptr f 0,evv playE p] H=some (Lg.trunc H r)∧Done H f r:=by
 refine LC_runs (P:=Tryz.prog) (E:=EJ) (f:=76) rfl Tryz.func76 rfl (by kernel_rfl) ?_
 obtain⟨H1,hH1⟩: ∃H1,H1=H.new ⟨[.int .i64 4,.int .i64 1,str [],str [],str [],.int .i64 0,.int .i64 0,p,str []],83,true⟩:=⟨_,rfl⟩
 have a1:H1.get f=some ⟨fcs m q 0 0 c,92,true⟩:=by rw [hH1,get_new_ne (by omega)];exact hg
 have a2:H1.get m=some ⟨[],0,true⟩:=by rw [hH1,get_new_ne (by omega)];exact hm
 have a3:H1.get H.n=some ⟨[.int .i64 4,.int .i64 1,str [],str [],str [],.int .i64 0,.int .i64 0,p,str []],83,true⟩:=by rw [hH1];exact get_new
 have n1:H1.n=H.n+1:=by rw [hH1];rfl
 obtain⟨H2,hH2⟩: ∃H2,H2=H1.set f ⟨fcs m q 1 0 c,92,true⟩:=⟨_,rfl⟩
 have b1:H2.get f=some ⟨fcs m q 1 0 c,92,true⟩:=by rw [hH2,get_set]
 have b2:H2.get m=some ⟨[],0,true⟩:=by rw [hH2,get_set_ne (by omega)];exact a2
 have b3:H2.get H.n=some ⟨[.int .i64 4,.int .i64 1,str [],str [],str [],.int .i64 0,.int .i64 0,p,str []],83,true⟩:=by rw [hH2,get_set_ne (by omega)];exact a3
 have n2:H2.n=H.n+1:=by rw [hH2];exact n1
 have e1:=one_l hp b1 b2 (by omega) (by omega) h3
 have e2:=check_l2 (H:=H2) hp
 have w:IntKind.i64.wrap 1=1:=by decide
 simp only [fcs]at a1 hH2
 simp [playE,hp,←hH1,a1,w,←hH2,b3,e1,e2]
 refine⟨_,rfl,get_new,by rw [n_new];exact Nat.lt_succ_self _,by simp [n2];omega,fun j hj hf=>?_⟩
 have hj2:j<H2.n:=by omega
 rw [get_new_ne (by simp;omega),get_set_ne hf,get_new_ne (by omega),hH2,get_set_ne hf,hH1,get_new_ne (by omega)]
end
section
variable {H H':LH} {s:List UInt8} {v w p:Value} {xs:List (List UInt8)} {c:Tg.Sc.Setup} {l pre rest:List Tg.Sc.Ev} {e:Tg.Sc.Ev} {N b:Nat}
theorem Bld.old {l:List UInt8} (h:Bld N H b l v) (hle:H.le H'):Bld N H' b l v:=
 ⟨by obtain⟨p,hg,hp⟩:=h.get;exact⟨p,by rw [hle.2 b h.lt];exact hg,hp⟩,h.row.keep hle.1 (fun k _ _ hk=>hle.2 k hk),h.full,h.off,Nat.lt_of_lt_of_le h.lt hle.1,Nat.le_trans h.N hle.1,h.nil⟩
theorem TRow.kp {l:List UInt8} {v':Value} (h:TRow H w xs) (hb:Bld N H b l v) (hk:Kp b v H v' H'):TRow H' w xs:=by
 rcases h with h|⟨k,o,c,B,h1,h2,h3,h4,h5,h6⟩
 ·exact .inl h
 ·have hkb:k≠b:=by
   rintro rfl
   obtain⟨p,hg,_⟩:=hb.get
   rw [h2]at hg
   injection hg with hg
   rw [hg]at h6
   revert h6
   show¬(96=9)
   decide
  have hoff:offRow v k:=RowN.off_of_elem hb.row h2 (by rw [h6];decide)
  exact .inr ⟨k,o,c,B,h1,by rw [hk.keep k h3 hkb hoff];exact h2,Nat.lt_of_lt_of_le h3 hk.n,h4,h5,h6⟩
theorem wstr_kp {l s:List UInt8} (h:Bld N H b l v) (hN:N≤b) (hlen:l.length+s.length≤maxElems):
  ∃v' H',LC Tryz.prog EJ 53 [ptr b 0,str s] H=some (.tuple #[.int .i64 s.length,.nilIface],H')∧Bld N H' b (l++s) v'∧(∀k,k<N→H'.get k=H.get k)∧Kp b v H v' H':=by
 obtain⟨v',H',e,hb,hk⟩:=wstr_ex h hlen
 exact⟨v',H',e,hb,fun k hk2=>hk.keep k (by have:=h.lt;omega) (by omega) (h.off_lt hk2),hk⟩
end
section
variable {H H':LH} {s:List UInt8} {v p:Value} {id k:Int} {f:Nat} {r:Value×LH}
theorem Done.trunc (h:Done H f r):Lg.trunc H r=r:=by
 obtain⟨k,h1,h2⟩:=h
 obtain⟨a,b⟩:=r
 simp only at h1
 subst h1
 exact trunc_no (by simp [flatB,flat1B,atomB])
theorem Do_ex {m q:Nat} {c:Int} (hp:cellB p=true) (hg:H.get f=some ⟨fcs m q 0 0 c,92,true⟩) (hm:H.get m=some ⟨[],0,true⟩) (h1:f<H.n) (h2:m<H.n) (h3:f≠m): ∃r,LC Tryz.prog EJ 54 [ptr f 0,evv playE p] H=some r∧Done H f r:=by
 obtain⟨G,hG⟩: ∃G,G=H.new ⟨evl playE p,83,true⟩:=⟨_,rfl⟩
 have g1:G.get f=some ⟨fcs m q 0 0 c,92,true⟩:=by rw [hG,get_new_ne (by omega)];exact hg
 have g2:G.get m=some ⟨[],0,true⟩:=by rw [hG,get_new_ne (by omega)];exact hm
 have g3:G.get H.n=some ⟨evl playE p,83,true⟩:=by rw [hG];exact get_new
 have n1:G.n=H.n+1:=by rw [hG];rfl
 obtain⟨r0,e,d⟩:=do_ex hp g1 g2 (by omega) (by omega) h3
 rw [d.trunc]at e
 have key: ∃r,LC Tryz.prog EJ 54 [ptr f 0,evv playE p] H=some (Lg.trunc H r)∧Done H f r:=by
  refine LC_runs (P:=Tryz.prog) (E:=EJ) (f:=54) rfl Tryz.func54 rfl (by kernel_rfl) ?_
  obtain⟨a,b⟩:=r0
  simp only [playE]at e g3 hG
  simp [playE,hp,←hG,g3,e]
  obtain⟨k,d1,d2,d3,d4,d5⟩:=d
  exact⟨k,d1,d2,d3,by simp only at d4⊢;omega,fun j hj hf=>by rw [d5 j (by omega) hf,hG,get_new_ne (by omega)]⟩
 obtain⟨r,e1,d1⟩:=key
 exact⟨r,by rw [e1,d1.trunc],d1⟩
theorem Bld.rest {N b:Nat} {l:List UInt8} (h:Bld N H b l v) (hn:H.n≤H'.n) (hk: ∀j,N≤j→j<H.n→H'.get j=H.get j) (hb:N≤b):Bld N H' b l v:=
 ⟨by obtain⟨p,hg,hp⟩:=h.get;exact⟨p,by rw [hk b hb h.lt];exact hg,hp⟩,h.row.keep hn (fun k h1 _ h2=>hk k h1 h2),h.full,h.off,Nat.lt_of_lt_of_le h.lt hn,Nat.le_trans h.N hn,h.nil⟩
def outU:Tg.Sc.Out:=⟨6,1,0,[],[],[117,110,107,110,111,119,110]⟩
def lineU:List UInt8:= [114,101,102,117,115,101,100,32,49,32,117,110,107,110,111,119,110]
theorem told_U:Tg.Sc.told outU= [lineU]:=by decide+kernel
theorem itoa_one:Lib.itoa 1= [49]:=by decide+kernel
def playO:List UInt8:= [46,49,10]++(lineU++ [10])
theorem trace_ex {m q N:Nat} {c:Int} (hr:ERow N H v [playE]) (hg:H.get f=some ⟨fcs m q 0 0 c,92,true⟩) (hm:H.get m=some ⟨[],0,true⟩) (h1:f<H.n) (h2:m<H.n) (h3:f≠m) (ht:Tab H) (h10:Tab10 H): ∃H',LC Tryz.prog EJ 42 [ptr f 0,v] H=some (str playO,H')∧H.n≤H'.n∧ ∀j,j<H.n→j≠f→H'.get j=H.get j:=by
 have key: ∃r,LC Tryz.prog EJ 42 [ptr f 0,v] H=some (Lg.trunc H r)∧r.1=str playO∧H.n≤r.2.n∧ ∀j,j<H.n→j≠f→r.2.get j=H.get j:=by
  refine LC_runs (P:=Tryz.prog) (E:=EJ) (f:=42) rfl Tryz.func42 rfl (by kernel_rfl) ?_
  obtain⟨pa,pn,pc,rfl⟩:=hr.slice
  have hlen:=fun G:LH=>hr.len (H':=G)
  obtain⟨k,o,qv,a1,a2,a3,a4⟩:=hr.at (i:=0) (by decide)
  obtain⟨G0,hG0⟩: ∃G,G=H.new ⟨[.pointer none,.slice none 0 0],96,true⟩:=⟨_,rfl⟩
  have n0:G0.n=H.n+1:=by rw [hG0];rfl
  have b0:Bld H.n G0 H.n [] (.slice none 0 0):=by rw [hG0];exact Bld.first
  have l0:H.le G0:=by rw [hG0];exact le_refl.new
  have a5:=(a4 G0 (l0.2 k a2)).1
  have hcell:cellB qv=true:=by
   obtain⟨_,_,_,rfl⟩:=(HOwn.row a3).slice
   rfl
  have a1: ∀G:LH,lixa Tryz.prog 65 (.slice pa pn pc) (.int .i64 0) G=some (ptr k o,G):=a1
  obtain⟨G1,hG1⟩: ∃G,G=G0.new ⟨evl playE qv,83,true⟩:=⟨_,rfl⟩
  have n1:G1.n=H.n+1+1:=by rw [hG1,n_new,n0]
  have l1:G0.le G1:=by rw [hG1];exact le_refl.new
  have b1:Bld H.n G1 H.n [] (.slice none 0 0):=Bld.old b0 l1
  have e1:G1.get (H.n+1)=some ⟨evl playE qv,83,true⟩:=by rw [hG1,←n0];exact get_new
  have bs1:Bs H G1:=by rw [hG1,hG0];exact⟨rfl,rfl⟩
  have t1:=scitoa (H:=G1) (n:=1) (by decide) (by decide) (h10.bs bs1)
  rw [itoa_one]at t1
  obtain⟨v2,G2,w1,w2,w3,w4⟩:=wstr_kp (s:= [46,49,10]) b1 (Nat.le_refl _) (by decide)
  rw [List.nil_append]at w2
  have n2:G1.n≤G2.n:=w4.n
  have e2:G2.get (H.n+1)=some ⟨evl playE qv,83,true⟩:=by rw [w4.keep (H.n+1) (by omega) (by omega) off_nil];exact e1
  have bs2:Bs H G2:=bs1.trans (ext_bs w1)
  have old2: ∀j,j<H.n→G2.get j=H.get j:=fun j hj=>by rw [w3 j hj,l1.2 j (by omega),l0.2 j hj]
  obtain⟨⟨u3,G3⟩,d0,k3,d1,d2,d3,d4,d5⟩:=Do_ex (H:=G2) (q:=q) (c:=c) hcell (by rw [old2 f h1];exact hg) (by rw [old2 m h2];exact hm) (by omega) (by omega) h3
  simp only at d1 d2 d3 d4 d5
  subst d1
  have b3:Bld H.n G3 H.n [46,49,10] v2:=Bld.rest w2 d4 (fun j hj1 hj2=>d5 j hj2 (by omega)) (Nat.le_refl _)
  have bs3:Bs H G3:=bs2.trans (ext_bs d0)
  obtain⟨G4,hG4⟩: ∃G,G=G3.new ⟨[.int .i64 6,.int .i64 1,.int .i64 0,.slice none 0 0,str [],str [117,110,107,110,111,119,110]],53,true⟩:=⟨_,rfl⟩
  have l4:G3.le G4:=by rw [hG4];exact le_refl.new
  have e4:G4.get G3.n=some ⟨[.int .i64 6,.int .i64 1,.int .i64 0,.slice none 0 0,str [],str [117,110,107,110,111,119,110]],53,true⟩:=by rw [hG4];exact get_new
  have bs4:Bs H G4:=by rw [hG4];exact bs3.trans ⟨rfl,rfl⟩
  obtain⟨v5,G5,f1,f2,f3⟩:=told_ex (H:=G4) (p:=.slice none 0 0) (o:=outU) (.inl ⟨rfl,rfl⟩) (by constructor<;>first|decide|simp [outU]) (ht.bs bs4) (h10.bs bs4)
  rw [told_U]at f2
  have bs5:Bs H G5:=bs4.trans (ext_bs f1)
  have hlen5:=fun G:LH=>f2.len (H':=G)
  obtain⟨k6,o6,q1,q2,q3⟩:=f2.at (i:=0) (by decide)
  have q4:=q3 G5 rfl
  have q1: ∀G:LH,lixa Tryz.prog 25 v5 (.int .i64 0) G=some (ptr k6 o6,G):=q1
  have b5:Bld H.n G5 H.n [46,49,10] v2:=Bld.old (Bld.old b3 l4) f3
  obtain⟨v6,G6,x1,x2,x3,x4⟩:=wstr_kp (s:=lineU++ [10]) b5 (Nat.le_refl _) (by decide)
  have c1: ∀t,lbin Tryz.prog .add t (str [46]) (str [49])=some (str [46,49]):=fun t=>cc (by decide) t
  have c2: ∀t,lbin Tryz.prog .add t (str [46,49]) (str [10])=some (str [46,49,10]):=fun t=>cc (by decide) t
  have c3: ∀t,lbin Tryz.prog .add t (str lineU) (str [10])=some (str (lineU++ [10])):=fun t=>cc (by decide) t
  obtain⟨G7,s1,s2,s3⟩:=bstr_ex x2 (by decide)
  have hfin:G7.n≥H.n∧ ∀j,j<H.n→j≠f→G7.get j=H.get j:=by
   have:=x4.n
   have:=f3.1
   have:=l4.1
   refine⟨by omega,fun j hj hf=>?_⟩
   rw [s3 j hj,x3 j hj,f3.2 j (by have:=l4.1;omega),l4.2 j (by omega),d5 j (by omega) hf,old2 j hj]
  have w0:IntKind.i64.wrap 1=1:=by decide
  simp only [outU]at f1
  have a5:lld Tryz.prog 83 (ptr k o) G0=some (evv playE qv):=a5
  simp only [playE]at a5 hG1 e1 e2 d0
  simp only [List.length_singleton]at hlen hlen5
  have hpo: [46,49,10]++(lineU++ [10])=playO:=rfl
  rw [hpo]at s1
  simp [runs_loop,runs_inLoop,hcell,←hG0,hlen,a1,a5,n0,←hG1,t1,c1,c2,w0,w1,e2,d0,d2,←hG4,e4,f1,hlen5,q1,q4,c3,x1,s1]
  exact hfin
 obtain⟨⟨u,H1⟩,e,rfl,d1,d2⟩:=key
 rcases trunc_or (str playO) H H1 with g|⟨g,_,_⟩
 ·exact⟨H1,by rw [e,g],d1,d2⟩
 ·exact⟨H,by rw [e,g],Nat.le_refl _,fun _ _ _=>rfl⟩
theorem run_cl (hm:MaxL H) (ht:Tab H) (h10:Tab10 H):LC Tryz.prog EJ 29 [str playT] H=some (.tuple #[str playO,.int .i64 0,.int .i64 0],H):=by
 refine LC_pure rfl Tryz.func29 rfl (by kernel_rfl) rfl ?_
 obtain⟨⟨u,H1⟩,e1,p1,hu,hle,hr⟩:=read_ex (H:=H) (s:=playT) (by decide) hm ht h10
 rw [play_read]at hu hr
 simp only at hu hr hle
 subst hu
 have bs1:Bs H H1:=ext_bs e1
 obtain⟨G,hG⟩: ∃G,G=H1.new ⟨[.bool false,.int .i64 1445,.int .i64 9,.int .i64 2,.int .i64 2],64,true⟩:=⟨_,rfl⟩
 have nG:G.n=H1.n+1:=by rw [hG];rfl
 have gG:G.get H1.n=some ⟨[.bool false,.int .i64 1445,.int .i64 9,.int .i64 2,.int .i64 2],64,true⟩:=by rw [hG];exact get_new
 have lG:H1.le G:=by rw [hG];exact le_refl.new
 have bsG:Bs H G:=by rw [hG];exact bs1.trans ⟨rfl,rfl⟩
 have e2:=fnew_l (H:=G)
 obtain⟨K,hK⟩: ∃K,K=((((G.new ⟨[.bool false,.int .i64 1445,.int .i64 9,.int .i64 2,.int .i64 2],64,true⟩).new ⟨[],0,true⟩).new ⟨[.map (some (G.n+1)),.int .i64 0,.int .i64 2,.int .i64 0],124,true⟩).new ⟨[],0,true⟩).new ⟨fcs (G.n+3) (G.n+2) 0 0 0,92,true⟩:=⟨_,rfl⟩
 rw [←hK]at e2
 have nK:K.n=G.n+5:=by rw [hK];rfl
 have kf:K.get (G.n+4)=some ⟨fcs (G.n+3) (G.n+2) 0 0 0,92,true⟩:=by rw [hK];exact get_new
 have km:K.get (G.n+3)=some ⟨[],0,true⟩:=by rw [hK,get_new_ne (by simp)];exact get_new
 have lK:G.le K:=by rw [hK];exact le_refl.new.new.new.new.new
 have bsK:Bs H K:=bsG.trans (by rw [hK];exact⟨rfl,rfl⟩)
 have hr':ERow H.n K p1 [playE]:=hr.keep (by omega) (fun k hk=>by rw [lK.2 k (by omega),lG.2 k hk])
 obtain⟨J,e3,j1,j2⟩:=trace_ex hr' kf km (by omega) (by omega) (by omega) (ht.bs bsK) (h10.bs bsK)
 have hfin:H.le J:=⟨by have:=hle.1;omega,fun k hk=>by have:=hle.1;rw [j2 k (by omega) (by omega),lK.2 k (by omega),lG.2 k (by omega),hle.2 k hk]⟩
 obtain⟨pa,pn,pc,rfl⟩:=hr.slice
 simp only [livesC]at e1 e2
 simp [e1,←hG,gG,e2,e3]
 exact hfin
theorem lives42_cl (hm:MaxL H) (ht:Tab H) (h10:Tab10 H):LC Tryz.prog EJ 11 [] H=some (.bool true,H):=by
 refine LC_pure rfl Tryz.func11 rfl (by kernel_rfl) rfl ?_
 have e:=run_cl hm ht h10
 simp only [playT]at e
 have hp:playO= [46,49,10,114,101,102,117,115,101,100,32,49,32,117,110,107,110,111,119,110,10]:=rfl
 simp [e,hp,le_refl]
end
end Go.Proofs.YteeiipildjgdbaaGreatDoor.Sc
namespace Tg.Sc
def finS (id:Int) (s:List UInt8) (o:Out):List UInt8:=
 if o.id≠id∨o.kind=6 then s
 else if o.kind=3 then [97,108,108,111,119,101,100]else if o.kind=4 then [98,108,111,99,107,101,100]else if o.kind=5 then [102,97,105,108,101,100]else [111,112,101,110]
theorem fin_fold (id:Int) (l:List Out):l.foldl (finS id) [114,101,102,117,115,101,100]=finalP id l:=by
 have key: ∀(l:List Out) (s:List UInt8),l.foldl (finS id) s=match (((l.filter fun o=>decide (o.id=id)).filter fun o=>!decide (o.kind=6)).getLast?).map (·.kind)with
   |none=>s
   |some k=>if k=3 then [97,108,108,111,119,101,100]else if k=4 then [98,108,111,99,107,101,100]else if k=5 then [102,97,105,108,101,100]else [111,112,101,110]:=by
  intro l
  induction l with
  |nil=>intro s;rfl
  |cons o l ih=>
   intro s
   rw [List.foldl_cons,ih,List.filter_cons]
   by_cases h1:o.id=id
   ·rw [if_pos (by simpa using h1),List.filter_cons]
    by_cases h2:o.kind=6
    ·rw [if_neg (by simpa using h2)]
     unfold finS
     rw [if_pos (.inr h2)]
    ·rw [if_pos (by simpa using h2)]
     generalize (l.filter fun o=>decide (o.id=id)).filter (fun o=>!decide (o.kind=6))=m
     cases m with
     |nil=>
      unfold finS
      rw [if_neg (by rintro(h|h);exact h h1;exact h2 h)]
      rfl
     |cons a m=>
      rw [List.getLast?_cons_cons]
      cases hm:(a::m).getLast? with
      |none=>simp at hm
      |some b=>rfl
   ·rw [if_neg (by simpa using h1)]
    unfold finS
    rw [if_pos (.inl h1)]
 rw [key];rfl
end Tg.Sc
namespace Go.Proofs.YteeiipildjgdbaaGreatDoor.Sc
open Go.Lg Go.Tg
section
variable {H H':LH} {N M:Nat} {v w p:Value} {l m:List Tg.Sc.Out} {o:Tg.Sc.Out} {id:Int}
theorem bs0_own:OOwn N H.n (H.new ⟨[],53,true⟩) (sl H.n 0 0) []:=⟨[],⟨by simp,.inr ⟨H.n,0,[],rfl,Nat.le_refl _,by simp,by simp,Nat.le_refl _,by simp⟩⟩,fun i h=>by simp at h⟩
theorem rOf_ex (hr:OG N H v l) (hl:l.length≤100000) (hN:N≤H.n):Gives Tryz.prog EJ 15 [.int .i64 id,v] H fun H' r=>OOwn N H.n H' r (l.filter fun o=>decide (o.id=id)):=by
 refine gives_of ?_ (fun v H' hf h=>h.flat hf)
 refine LC_runs (P:=Tryz.prog) (E:=EJ) (f:=15) rfl Tryz.func15 rfl (by kernel_rfl) ?_
 have hlen:=fun G:LH=>hr.len (H':=G) (t:=32) Tryz.underlying32
 obtain⟨va,vn,vc,rfl⟩:=hr.slice
 have h0:OOwn N H.n (H.new ⟨[],53,true⟩) (sl H.n 0 0) []:=bs0_own
 simp [bs0o]
 refine loop_ind (fun(i:Nat) fr' H'=> ∃w,fr' 0=.int .i64 id∧fr' 1=.slice va vn vc∧fr' 5=w∧fr' 6=.int .i64 i∧i≤l.length∧H.le H'∧OOwn N H.n H' w ((l.take i).filter fun o=>decide (o.id=id))) (fun i=>l.length-i) 0 ⟨_,by simp,by simp,by simp,by simp,Nat.zero_le _,le_refl.new,h0⟩ ?_
 rintro i fr' H' ⟨w,f0,f1,f5,f6,hi,hle,hown⟩ ih
 have hw1:IntKind.i64.wrap ((i:Int)+1)=((i+1:Nat):Int):=by rw [wrapI (by omega) (by omega)];omega
 by_cases hlt:i<l.length
 ·have q0:=eq_true (show(i:Int)<(l.length:Int) by omega)
  obtain⟨k,o1,cs,g1,g2,⟨p,rfl,g3⟩,g4⟩:=(hr.le hle).at (t:=32) Tryz.underlying32 szO hlt
  have g5:=(g4 H' rfl).1 aggO
  have g6:=(g4 H' rfl).2.1 1 3 (.int .i64 l[i].id) (by kernel_rfl) rfl
  have htk:l.take (i+1)=l.take i++ [l[i]]:=List.take_succ_eq_append_getElem hlt
  have hlf:((l.take i).filter fun o=>decide (o.id=id)).length≤i:=Nat.le_trans (List.length_filter_le _ _) (by rw [List.length_take];omega)
  have hn:=hle.1
  obtain⟨w',H3,e3,r3,n3,k3,_,_⟩:=OOwn.app hown hN hn (by unfold maxElems;omega) g3
  have le3:H.le H3:=⟨by omega,fun k hk=>by rw [k3 k (by omega) (hown.off_lt hk),hle.2 k hk]⟩
  obtain⟨pa,pn,pc,rfl⟩:=g3.slice
  have bs1:=bs1out (H:=H') (o:=l[i]) (p1:=pa) (p2:=pn) (p3:=pc)
  generalize l[i]=o at*
  by_cases hid:o.id=id
  ·have hfin:=fun fr2 a0 a1 a5 a6=>ih (i+1) fr2 H3 (by omega) ⟨w',a0,a1,a5,a6,by omega,le3,by rw [htk,List.filter_append,List.filter_cons,if_pos (by simpa using hid)];exact r3⟩
   have q1:=eq_true hid
   clear ih g4
   simp [f0,f1,f5,f6,q0,hlen,g1,g5,g6,q1,bs1,e3]
   refine hfin _ ?_ ?_ ?_ ?_
   all_goals simp [f0,f1,f5,hw1]
  ·have hfin:=fun fr2 a0 a1 a5 a6=>ih (i+1) fr2 H' (by omega) ⟨w,a0,a1,a5,a6,by omega,hle,by rw [htk,List.filter_append,List.filter_cons,if_neg (by simpa using hid),List.filter_nil,List.append_nil];exact hown⟩
   have q1:=eq_false hid
   clear ih g4
   simp [f0,f1,f5,f6,q0,hlen,g1,g5,g6,q1]
   refine hfin _ ?_ ?_ ?_ ?_
   all_goals simp [f0,f1,f5,hw1]
 ·have q0:=eq_false (show¬(i:Int)<(l.length:Int) by omega)
  have:i=l.length:=by omega
  subst this
  rw [List.take_length]at hown
  simp [f1,f5,f6,q0,hlen]
  exact⟨hle,hown⟩
theorem rJoined_ex (hr:OG N H v l) (hl:l.length≤100000) (hb:Tg.Sc.bsum l≤80000000) (hN:N≤H.n):Gives Tryz.prog EJ 17 [v] H fun H' r=>OOwn N H.n H' r (Tg.Sc.joinP true l):=by
 refine gives_of ?_ (fun v H' hf h=>h.flat hf)
 refine LC_runs (P:=Tryz.prog) (E:=EJ) (f:=17) rfl Tryz.func17 rfl (by kernel_rfl) ?_
 have hlen:=fun G:LH=>hr.len (H':=G) (t:=32) Tryz.underlying32
 obtain⟨va,vn,vc,rfl⟩:=hr.slice
 have h0:OOwn N H.n (H.new ⟨[],53,true⟩) (sl H.n 0 0) []:=bs0_own
 simp [bs0o]
 refine loop_ind (fun(i:Nat) fr' H'=> ∃w,fr' 0=.slice va vn vc∧fr' 3=w∧fr' 4=.int .i64 i∧i≤l.length∧H.le H'∧OOwn N H.n H' w (Tg.Sc.joinP true (l.take i))) (fun i=>l.length-i) 0 ⟨_,by simp,by simp,by simp,Nat.zero_le _,le_refl.new,h0⟩ ?_
 rintro i fr' H' ⟨w,f0,f3,f4,hi,hle,hown⟩ ih
 have hw1:IntKind.i64.wrap ((i:Int)+1)=((i+1:Nat):Int):=by rw [wrapI (by omega) (by omega)];omega
 by_cases hlt:i<l.length
 ·have q0:=eq_true (show(i:Int)<(l.length:Int) by omega)
  obtain⟨k,o1,cs,g1,g2,⟨p,rfl,g3⟩,g4⟩:=(hr.le hle).at (t:=32) Tryz.underlying32 szO hlt
  have g5:=(g4 H' rfl).1 aggO
  have g6:=(g4 H' rfl).2.1 0 3 (.int .i64 l[i].kind) (by kernel_rfl) rfl
  have g7:=(g4 H' rfl).2.1 1 3 (.int .i64 l[i].id) (by kernel_rfl) rfl
  have g8:=(g4 H' rfl).2.1 4 9 (str l[i].body) (by kernel_rfl) rfl
  rw [Nat.add_zero]at g6
  have hst:=Tg.Sc.joinP_step (b:=true) hlt
  have hal:=Tg.Sc.joinP_len (b:=true) (l:=l) (i:=i) (by omega)
  have hbl:=Tg.Sc.joinP_body (b:=true) (l:=l) (i:=i) (by omega)
  have hbs:Tg.Sc.bsum (l.take i)+l[i].body.length≤80000000:=by
   rw [←Tg.Sc.bsum_step hlt]
   refine Nat.le_trans ?_ hb
   unfold Tg.Sc.bsum
   rw [←List.take_append_drop (i+1) (l.map fun o=>o.body.length),List.sum_append,List.map_take]
   omega
  obtain⟨pa,pn,pc,rfl⟩:=g3.slice
  have hn:=hle.1
  obtain⟨w',H3,e3,r3,n3,k3,_,_⟩:=OOwn.app hown hN hn (by unfold maxElems;omega) g3
  have le3:H.le H3:=⟨by omega,fun k hk=>by rw [k3 k (by omega) (hown.off_lt hk),hle.2 k hk]⟩
  have bs1:=bs1out (H:=H') (o:=l[i]) (p1:=pa) (p2:=pn) (p3:=pc)
  have hlw:=fun G:LH=>hown.row.len (H':=G) (t:=32) Tryz.underlying32
  obtain⟨wa,wn,wc,rfl⟩:=hown.row.slice
  generalize l[i]=o at*
  generalize hac:Tg.Sc.joinP true (l.take i)=acc at*
  have hput: ∀(hj:Tg.Sc.joinS true acc o=acc++ [o]) (fr2:Fr) (a0:fr2 0=.slice va vn vc) (a3:fr2 3=w') (a4:fr2 4=.int .i64 ((i+1:Nat):Int)),_:=fun hj fr2 a0 a3 a4=>ih (i+1) fr2 H3 (by omega) ⟨w',a0,a3,a4,by omega,le3,by rw [hst,hj];exact r3⟩
  rcases Nat.eq_zero_or_pos acc.length with h0|h0
  ·have hnil:=List.eq_nil_of_length_eq_zero h0
   subst hnil
   have hfin:=hput rfl
   clear ih hput g4
   simp only [List.length_nil]at hlw
   simp [f0,f3,f4,q0,hlen,hlw,g1,g5,g6,g7,bs1,e3]
   refine hfin _ ?_ ?_ ?_
   all_goals simp [f0,f3,f4,hw1]
  ·obtain⟨j,hj⟩: ∃j,acc.length=j+1:=⟨acc.length-1,by omega⟩
   have hjl:j<acc.length:=by omega
   obtain⟨k2,pq,s1,s2,s3,s4,⟨bk,s5,s5'⟩,s6,s7,s8,_⟩:=OOwn.sto hown hjl hN
   obtain⟨_,t1,t2,t3⟩:=s7 H' rfl
   obtain⟨H5,u1,u2,u3,u4⟩:=s8 (acc[j].body++o.body)
   have hjs:Tg.Sc.joinS true acc o=if o.kind=2∧acc[j].kind=2∧acc[j].id=o.id then acc.set j ⟨acc[j].kind,acc[j].id,acc[j].status,acc[j].hdrs,acc[j].body++o.body,acc[j].reason⟩else acc++ [o]:=by
    unfold Tg.Sc.joinS
    rw [hj,Nat.add_sub_cancel,List.getElem?_eq_getElem hjl]
    simp
   have hbj:=hbl _ (List.getElem_mem hjl)
   have cct:=cc (a:=acc[j].body) (b:=o.body) (by omega)
   have le5:H.le H5:=⟨by omega,fun q hq=>by rw [u4 q (by omega),hle.2 q hq]⟩
   have hup: ∀(hc:o.kind=2∧acc[j].kind=2∧acc[j].id=o.id) (fr2:Fr) (a0:fr2 0=.slice va vn vc) (a3:fr2 3=.slice wa wn wc) (a4:fr2 4=.int .i64 ((i+1:Nat):Int)),_:=fun hc fr2 a0 a3 a4=>ih (i+1) fr2 H5 (by omega) ⟨.slice wa wn wc,a0,a3,a4,by omega,le5,by rw [hst,hjs,if_pos hc];exact u2⟩
   have hput2: ¬(o.kind=2∧acc[j].kind=2∧acc[j].id=o.id)→_:=fun hc=>hput (by rw [hjs,if_neg hc])
   rw [hj]at hlw
   have hw2:IntKind.i64.wrap (j:Int)=(j:Int):=wrapI (by omega) (by omega)
   have h0j:(0:Int)≤j:=by omega
   clear ih hput hst hjs hac hbl hal s7 s8 g4
   generalize acc[j]=a at*
   by_cases c1:o.kind=2
   ·by_cases c2:a.kind=2
    ·by_cases c3:o.id=a.id
     ·have hfin:=hup ⟨c1,c2,c3.symm⟩
      have c1:=eq_true c1
      have c2:=eq_true c2
      have c3:=eq_true c3
      clear hup hput2
      simp [f0,f3,f4,q0,hlen,hlw,hw2,g1,g6,g7,g8,s1,t1,t2,t3,c1,c2,c3,cct,u1]
      refine hfin _ ?_ ?_ ?_
      all_goals simp [f0,f3,f4,hw1]
     ·have hfin:=hput2 (fun h=>c3 h.2.2.symm)
      have c1:=eq_true c1
      have c2:=eq_true c2
      have c3:=eq_false c3
      clear hup hput2
      simp [f0,f3,f4,q0,hlen,hlw,hw2,g1,g5,g6,g7,g8,s1,t1,t2,t3,c1,c2,c3,bs1,e3]
      refine hfin _ ?_ ?_ ?_
      all_goals simp [f0,f3,f4,hw1]
    ·have hfin:=hput2 (fun h=>c2 h.2.1)
     have c1:=eq_true c1
     have c2:=eq_false c2
     clear hup hput2
     simp [f0,f3,f4,q0,hlen,hlw,hw2,g1,g5,g6,g7,g8,s1,t1,t2,t3,c1,c2,bs1,e3]
     refine hfin _ ?_ ?_ ?_
     all_goals simp [f0,f3,f4,hw1]
   ·have hfin:=hput2 (fun h=>c1 h.1)
    have c1:=eq_false c1
    clear hup hput2
    simp [f0,f3,f4,q0,hlen,hlw,hw2,g1,g5,g6,g7,g8,s1,t1,t2,t3,c1,bs1,e3]
    refine hfin _ ?_ ?_ ?_
    all_goals simp [f0,f3,f4,hw1]
 ·have q0:=eq_false (show¬(i:Int)<(l.length:Int) by omega)
  have:i=l.length:=by omega
  subst this
  rw [List.take_length]at hown
  simp [f0,f3,f4,q0,hlen]
  exact⟨hle,hown⟩
theorem rFinal_cl (hr:OG N H v l) (hl:l.length≤100000):LC Tryz.prog EJ 19 [.int .i64 id,v] H=some (str (Tg.Sc.finalP id l),H):=by
 refine LC_pure rfl Tryz.func19 rfl (by kernel_rfl) (by simp) ?_
 rw [←Tg.Sc.fin_fold]
 generalize hR:l.foldl (Tg.Sc.finS id) [114,101,102,117,115,101,100]=R
 have hlen:=fun G:LH=>hr.len (H':=G) (t:=32) Tryz.underlying32
 obtain⟨va,vn,vc,rfl⟩:=hr.slice
 simp
 refine loop_ind (fun(i:Nat) fr' H'=> ∃s,fr' 0=.int .i64 id∧fr' 1=.slice va vn vc∧fr' 5=str s∧fr' 6=.int .i64 i∧i≤l.length∧(l.drop i).foldl (Tg.Sc.finS id) s=R∧H'=H) (fun i=>l.length-i) 0 ⟨_,by simp,by simp,by simp,by simp,Nat.zero_le _,hR,rfl⟩ ?_
 rintro i fr' H' ⟨s,f0,f1,f5,f6,hi,hq,rfl⟩ ih
 have hw1:IntKind.i64.wrap ((i:Int)+1)=((i+1:Nat):Int):=by rw [wrapI (by omega) (by omega)];omega
 by_cases hlt:i<l.length
 ·have q0:=eq_true (show(i:Int)<(l.length:Int) by omega)
  obtain⟨k,o1,cs,g1,g2,⟨p,rfl,g3⟩,g4⟩:=hr.at (t:=32) Tryz.underlying32 szO hlt
  have g6:=(g4 H' rfl).2.1 0 3 (.int .i64 l[i].kind) (by kernel_rfl) rfl
  have g7:=(g4 H' rfl).2.1 1 3 (.int .i64 l[i].id) (by kernel_rfl) rfl
  rw [Nat.add_zero]at g6
  rw [List.drop_eq_getElem_cons hlt,List.foldl_cons]at hq
  have hfin:=fun fr2 a0 a1 a5 a6=>ih (i+1) fr2 H' (by omega) ⟨_,a0,a1,a5,a6,by omega,hq,rfl⟩
  clear ih g4 hq
  generalize l[i]=o at*
  unfold Tg.Sc.finS at hfin
  by_cases c1:o.id=id
  ·by_cases c6:o.kind=6
   ·rw [if_pos (.inr c6)]at hfin
    have c1:=eq_true c1
    have c6:=eq_true c6
    simp [f0,f1,f5,f6,q0,hlen,g1,g6,g7,c1,c6]
    refine hfin _ ?_ ?_ ?_ ?_
    all_goals simp [f0,f1,f5,hw1]
   ·rw [if_neg (by rintro(h|h);exact h c1;exact c6 h)]at hfin
    have c1:=eq_true c1
    by_cases c3:o.kind=3
    ·rw [if_pos c3]at hfin
     simp [f0,f1,f5,f6,q0,hlen,g1,g6,g7,c1,c3]
     refine hfin _ ?_ ?_ ?_ ?_
     all_goals simp [f0,f1,f5,hw1]
    ·rw [if_neg c3]at hfin
     by_cases c4:o.kind=4
     ·rw [if_pos c4]at hfin
      simp [f0,f1,f5,f6,q0,hlen,g1,g6,g7,c1,c4]
      refine hfin _ ?_ ?_ ?_ ?_
      all_goals simp [f0,f1,f5,hw1]
     ·rw [if_neg c4]at hfin
      by_cases c5:o.kind=5
      ·rw [if_pos c5]at hfin
       simp [f0,f1,f5,f6,q0,hlen,g1,g6,g7,c1,c5]
       refine hfin _ ?_ ?_ ?_ ?_
       all_goals simp [f0,f1,f5,hw1]
      ·rw [if_neg c5]at hfin
       have c3:=eq_false c3
       have c4:=eq_false c4
       have c5:=eq_false c5
       have c6:=eq_false c6
       simp [f0,f1,f5,f6,q0,hlen,g1,g6,g7,c1,c3,c4,c5,c6]
       refine hfin _ ?_ ?_ ?_ ?_
       all_goals simp [f0,f1,f5,hw1]
  ·rw [if_pos (.inl c1)]at hfin
   have c1:=eq_false c1
   simp [f0,f1,f5,f6,q0,hlen,g1,g6,g7,c1]
   refine hfin _ ?_ ?_ ?_ ?_
   all_goals simp [f0,f1,f5,hw1]
 ·have q0:=eq_false (show¬(i:Int)<(l.length:Int) by omega)
  rw [List.drop_of_length_le (by omega)]at hq
  have hq:s=R:=hq
  subst hq
  simp [f1,f5,f6,q0,hlen]
theorem osame_cl (hr:OG N H v l) (hw:OG N H w m) (hl:l.length≤1000000) (hz: ∀o∈l,o.hdrs.length≤1000000) (hN:N≤H.n):LC Tryz.prog EJ 13 [v,w] H=some (.bool (decide (l=m)),H):=by
 refine LC_pure rfl Tryz.func13 rfl (by kernel_rfl) rfl ?_
 have hlen:=fun G:LH=>hr.len (H':=G) (t:=32) Tryz.underlying32
 have hlen2:=fun G:LH=>hw.len (H':=G) (t:=32) Tryz.underlying32
 obtain⟨va,vn,vc,rfl⟩:=hr.slice
 obtain⟨wa,wn,wc,rfl⟩:=hw.slice
 by_cases hlm:l.length=m.length
 ·obtain⟨x,hx⟩: ∃x,x=decide (l.drop 0=m.drop 0):=⟨_,rfl⟩
  have e:decide (l=m)=x:=hx.symm
  rw [e]
  have q0:=eq_true (show(l.length:Int)=(m.length:Int) by omega)
  simp [hlen,hlen2,q0]
  refine loop_ind (fun(i:Nat) fr' H'=>fr' 0=.slice va vn vc∧fr' 1=.slice wa wn wc∧fr' 5=.int .i64 i∧i≤l.length∧x=decide (l.drop i=m.drop i)∧H.le H') (fun i=>l.length-i) 0 ⟨by simp,by simp,by simp,Nat.zero_le _,hx,le_refl⟩ ?_
  rintro i fr' H' ⟨h0,h1,h5,hi,hc,hle⟩ ih
  by_cases hlt:i<l.length
  ·have q:=eq_true (show(i:Int)<(l.length:Int) by omega)
   have hlt2:i<m.length:=by omega
   have hw1:IntKind.i64.wrap ((i:Int)+1)=((i+1:Nat):Int):=by rw [wrapI (by omega) (by omega)];omega
   obtain⟨k,o1,cs,g1,g2,⟨p,rfl,g3⟩,g4⟩:=(hr.le hle).at (t:=32) Tryz.underlying32 szO hlt
   obtain⟨k',o1',cs',g1',g2',⟨p',rfl,g3'⟩,g4'⟩:=(hw.le hle).at (t:=32) Tryz.underlying32 szO hlt2
   have hn:=hle.1
   have zi:=hz _ (List.getElem_mem hlt)
   obtain⟨pa,pn,pc,rfl⟩:=g3.slice
   obtain⟨qa,qn,qc,rfl⟩:=g3'.slice
   obtain⟨zb,hzb⟩: ∃zb:LB,zb=⟨[.int .i64 0,.int .i64 0,.int .i64 0,.slice none 0 0,str [],str []],53,true⟩:=⟨_,rfl⟩
   obtain⟨G,hG⟩: ∃G,G=(H'.new zb).new zb:=⟨_,rfl⟩
   obtain⟨G2,hG2⟩: ∃G2,G2=G.set H'.n ⟨outl l[i] (.slice pa pn pc),53,true⟩:=⟨_,rfl⟩
   obtain⟨G3,hG3⟩: ∃G3,G3=G2.set (H'.n+1) ⟨outl m[i] (.slice qa qn qc),53,true⟩:=⟨_,rfl⟩
   have leG:H'.le G:=by rw [hG];exact le_refl.new.new
   have nG:G.n=H'.n+1+1:=by rw [hG];rfl
   have a1:G.get H'.n=some zb:=by rw [hG,get_new_ne (by simp),get_new]
   have a2:G.get (H'.n+1)=some zb:=by rw [hG];exact get_new
   have a3:G2.get H'.n=some ⟨outl l[i] (.slice pa pn pc),53,true⟩:=by rw [hG2,get_set]
   have a4:G2.get (H'.n+1)=some zb:=by rw [hG2,get_set_ne (by omega)];exact a2
   have a5:G3.get H'.n=some ⟨outl l[i] (.slice pa pn pc),53,true⟩:=by rw [hG3,get_set_ne (by omega)];exact a3
   have a6:G3.get (H'.n+1)=some ⟨outl m[i] (.slice qa qn qc),53,true⟩:=by rw [hG3,get_set]
   have le3:H'.le G3:=⟨by rw [hG3,hG2];exact leG.1,fun k hk=>by rw [hG3,get_set_ne (by omega),hG2,get_set_ne (by omega),leG.2 k hk]⟩
   have hsm:=hsame_cl (HG.hrow (g3.le le3)) (HG.hrow (g3'.le le3)) zi
   have l5: ∀F:LH,F.get k=H'.get k→lld Tryz.prog 53 (ptr k o1) F=some (outv l[i] (.slice pa pn pc)):=fun F hF=>(g4 F hF).1 aggO
   have l6: ∀F:LH,F.get k'=H'.get k'→lld Tryz.prog 53 (ptr k' o1') F=some (outv m[i] (.slice qa qn qc)):=fun F hF=>(g4' F hF).1 aggO
   have l7:=l5 H' rfl
   have l8:=l6 H' rfl
   have m1:=l5 (H'.new zb) (get_new_ne (by omega))
   have m2:=l5 G (leG.2 k g2)
   have m3:=l6 (H'.new zb) (get_new_ne (by omega))
   have m4:=l6 G (leG.2 k' g2')
   have m5:=l6 G2 (by rw [hG2,get_set_ne (by omega)];exact leG.2 k' g2')
   have m6:=l5 G2 (by rw [hG2,get_set_ne (by omega)];exact leG.2 k g2)
   clear l5 l6
   rw [List.drop_eq_getElem_cons hlt,List.drop_eq_getElem_cons hlt2]at hc
   clear g4 g4' g3 g3'
   generalize l[i]=a at*
   generalize m[i]=b at*
   by_cases hab:a=b
   ·subst hab
    have hc:x=decide (l.drop (i+1)=m.drop (i+1)):=by rw [hc];simp
    have hfin:=fun fr2 b0 b1 b5=>ih (i+1) fr2 G3 (by omega) ⟨b0,b1,b5,by omega,hc,hle.trans le3⟩
    clear ih hc
    simp only [decide_true]at hsm
    subst hzb
    simp [h0,h1,h5,q,hlen,g1,g1',l7,l8,m1,m2,m3,m4,m5,m6,←hG,a1,a2,←hG2,a3,a4,←hG3,a5,a6,hsm]
    refine hfin _ ?_ ?_ ?_
    all_goals simp [h0,h1,hw1]
   ·have hc:x=false:=by rw [hc];simp [hab]
    subst hc
    clear ih
    have hle3:=hle.trans le3
    subst hzb
    obtain⟨k1,i1,s1,d1,b1,r1⟩:=a
    obtain⟨k2,i2,s2,d2,b2,r2⟩:=b
    simp only at a3 a5 a6 hG2 hG3 l7 l8 m1 m2 m3 m4 m5 m6 hsm
    by_cases c1:k1=k2
    ·by_cases c2:i1=i2
     ·by_cases c3:s1=s2
      ·by_cases c4:b1=b2
       ·by_cases c5:r1=r2
        ·have c6: ¬d1=d2:=fun e=>hab (by rw [c1,c2,c3,c4,c5,e])
         rw [decide_eq_false c6]at hsm
         subst c1;subst c2;subst c3;subst c4;subst c5
         simp [h0,h1,h5,q,hlen,g1,g1',l7,l8,m1,m2,m3,m4,m5,m6,←hG,a1,a2,←hG2,a3,a4,←hG3,a5,a6,hsm]
         exact hle3
        ·have c5:=eq_false c5
         subst c1;subst c2;subst c3;subst c4
         simp [h0,h1,h5,q,hlen,g1,g1',l7,l8,m1,m2,m3,m4,m5,m6,←hG,a1,a2,←hG2,a3,a4,←hG3,a5,a6,c5]
         exact hle3
       ·have c4:=eq_false c4
        subst c1;subst c2;subst c3
        simp [h0,h1,h5,q,hlen,g1,g1',l7,l8,m1,m2,m3,m4,m5,m6,←hG,a1,a2,←hG2,a3,a4,←hG3,a5,a6,c4]
        exact hle3
      ·have c3:=eq_false c3
       subst c1;subst c2
       simp [h0,h1,h5,q,hlen,g1,g1',l7,l8,m1,m2,m3,m4,m5,m6,←hG,a1,a2,←hG2,a3,a4,←hG3,a5,a6,c3]
       exact hle3
     ·have c2:=eq_false c2
      subst c1
      simp [h0,h1,h5,q,hlen,g1,g1',l7,l8,m1,m2,m3,m4,m5,m6,←hG,a1,a2,←hG2,a3,a4,←hG3,a5,a6,c2]
      exact hle3
    ·have c1:=eq_false c1
     simp [h0,h1,h5,q,hlen,g1,g1',l7,l8,m1,m2,m3,m4,m5,m6,←hG,a1,a2,←hG2,a3,a4,←hG3,a5,a6,c1]
     exact hle3
  ·have q:=eq_false (show¬(i:Int)<(l.length:Int) by omega)
   rw [List.drop_of_length_le (by omega),List.drop_of_length_le (by omega)]at hc
   have hc:x=true:=hc
   subst hc
   simp [h0,h1,h5,q,hlen]
   exact hle
 ·have e:decide (l=m)=false:=decide_eq_false (fun e=>hlm (by rw [e]))
  have q0:=eq_false (show¬(l.length:Int)=(m.length:Int) by omega)
  rw [e]
  simp [hlen,hlen2,q0,le_refl]
end
end Go.Proofs.YteeiipildjgdbaaGreatDoor.Sc
namespace Tg.Sc
theorem few_few4 (l:List Tg.Hd.Hdr) (n:Nat):Tg.Hd.few (Tg.Hd.few l n) n=Tg.Hd.few l n:=by
 unfold Tg.Hd.few
 rw [←List.map_take,List.take_take,Nat.min_self,List.map_map]
 congr 1
 funext h
 simp [List.take_take]
theorem cutO_cut (o:Out):cutO (cutO o)=cutO o:=by
 unfold cutO
 simp [few_few4,List.take_take]
theorem cutL_cut (l:List Out):(((l.take 20).map cutO).take 20).map cutO=(l.take 20).map cutO:=by
 rw [List.take_of_length_le (by rw [List.length_map,List.length_take];omega),List.map_map]
 congr 1
 funext o
 exact cutO_cut o
theorem cutL_len (l:List Out):((l.take 20).map cutO).length≤20:=by rw [List.length_map,List.length_take];omega
theorem cutL_hdrs (l:List Out): ∀o∈(l.take 20).map cutO,o.hdrs.length≤4:=by
 intro o ho
 obtain⟨x,_,rfl⟩:=List.mem_map.1 ho
 show(Tg.Hd.few _ 4).length≤4
 unfold Tg.Hd.few;rw [List.length_map,List.length_take];omega
theorem bsum_le {n:Nat} : ∀ {l:List Out},(∀o∈l,o.body.length≤n)→bsum l≤l.length*n
 | [],_=>by simp [bsum]
 |o::l,h=>by
  have ih:=bsum_le (l:=l) fun o ho=>h o (List.mem_cons_of_mem _ ho)
  have h0:=h o (List.mem_cons_self ..)
  unfold bsum at ih⊢
  rw [List.map_cons,List.sum_cons,List.length_cons,Nat.succ_mul]
  omega
theorem cutL_sum (l:List Out):bsum ((l.take 20).map cutO)≤600:=by
 have h:=bsum_le (n:=30) (l:=(l.take 20).map cutO) (fun o ho=>by
  obtain⟨x,_,rfl⟩:=List.mem_map.1 ho
  unfold cutO
  rw [List.length_take];omega)
 have:=cutL_len l
 have:=Nat.mul_le_mul_right 30 this
 omega
end Tg.Sc
namespace Go.Proofs.YteeiipildjgdbaaGreatDoor.Sc
open Go.Lg Go.Tg
section
variable {H H':LH} {N M:Nat} {v w p:Value} {l m:List Tg.Sc.Out} {o:Tg.Sc.Out} {id:Int}
theorem rtold_ex (hr:OG N H v ((l.take 20).map Tg.Sc.cutO)) (hN:N≤H.n):Gives Tryz.prog EJ 12 [v] H fun H' r=>OOwn N H.n H' r ((l.take 20).map Tg.Sc.cutO):=by
 have h:=told42_ex (N:=N) (OG.orow hr) (by have:=Tg.Sc.cutL_len l;omega) (fun o ho=>by have:=Tg.Sc.cutL_hdrs l o ho;omega) hN
 rw [Tg.Sc.cutL_cut]at h
 exact h
theorem chooses_law (hr:ORow H v l) (hl:l.length≤9223372036854775807) (hz: ∀o∈l,o.hdrs.length≤9223372036854775807) (hm:MaxL H) (ht:Tab H) (h10:Tab10 H):LC Tryz.prog EJ 4 [.int .i64 id,v] H=some (.bool true,H):=by
 refine LC_pure rfl Tryz.func4 rfl (by kernel_rfl) rfl ?_
 obtain⟨v0,H0,e0,le0,o0⟩:=told42_ex (N:=H.n) hr hl hz (Nat.le_refl _)
 have hcl:=Tg.Sc.cutL_len l
 have hch:=Tg.Sc.cutL_hdrs l
 have hcs:=Tg.Sc.cutL_sum l
 have tex:=fun {G:LH} {u:Value} (h:OG H.n G u ((l.take 20).map Tg.Sc.cutO)) (hN:H.n≤G.n)=>rtold_ex h hN
 generalize (l.take 20).map Tg.Sc.cutO=t at*
 have hch2: ∀o∈t,o.hdrs.length≤1000000:=fun o ho=>by have:=hch o ho;omega
 have r0:=o0.row
 obtain⟨v1,H1,e1,le1,o1⟩:=tex r0 le0.1
 have L1:=le0.trans le1
 obtain⟨v2,H2,e2,le2,o2⟩:=Of_ex (id:=id) o1.row (by omega) hch2 L1.1
 have L2:=L1.trans le2
 obtain⟨v3,H3,e3,le3,o3⟩:=rOf_ex (id:=id) ((r0.le le1).le le2) (by omega) L2.1
 have L3:=L2.trans le3
 have hfl:(t.filter fun o=>decide (o.id=id)).length≤20:=Nat.le_trans (List.length_filter_le _ _) hcl
 have s3:=osame_cl (o2.row.le le3) o3.row (by omega) (fun o ho=>hch2 o (List.mem_filter.1 ho).1) L3.1
 have R3:=((r0.le le1).le le2).le le3
 obtain⟨v4,H4,e4,le4,o4⟩:=tex R3 L3.1
 have L4:=L3.trans le4
 obtain⟨v5,H5,e5,le5,o5⟩:=joined_ex o4.row (by omega) hch2 (by omega) L4.1
 have L5:=L4.trans le5
 have R5:=(R3.le le4).le le5
 obtain⟨v6,H6,e6,le6,o6⟩:=tex R5 L5.1
 have L6:=L5.trans le6
 obtain⟨v7,H7,e7,le7,o7⟩:=rJoined_ex o6.row (by omega) (by omega) L6.1
 have L7:=L6.trans le7
 have hjl:=Tg.Sc.joinP_len (b:=true) (l:=t) (i:=t.length) (Nat.le_refl _)
 have hjh:=Tg.Sc.joinP_hdrs (b:=true) hch2 (i:=t.length) (Nat.le_refl _)
 rw [List.take_length]at hjl hjh
 have s7:=osame_cl ((o5.row.le le6).le le7) o7.row (by omega) hjh L7.1
 have R7:=(R5.le le6).le le7
 obtain⟨v8,H8,e8,le8,o8⟩:=tex R7 L7.1
 have L8:=L7.trans le8
 have f1:=Final_cl (id:=id) o8.row (by omega) hch2 L8.1
 have f2:=rFinal_cl (id:=id) (R7.le le8) (by omega)
 have b8:Bs H H8:=(ext_bs e0).trans ((ext_bs e1).trans ((ext_bs e2).trans ((ext_bs e3).trans ((ext_bs e4).trans ((ext_bs e5).trans ((ext_bs e6).trans ((ext_bs e7).trans (ext_bs e8))))))))
 have lv:=lives42_cl (hm.bs b8) (ht.bs b8) (h10.bs b8)
 simp only [decide_true]at s3 s7
 clear tex hr o0 r0 o1 o2 o3 R3 o4 o5 R5 o6 o7 R7 o8
 simp [e0,e1,e2,e3,s3,e4,e5,e6,e7,s7,e8,f1,f2,lv]
 exact L8
end
end Go.Proofs.YteeiipildjgdbaaGreatDoor.Sc
namespace Go.Proofs.YteeiipildjgdbaaGreatDoor
open Go.ChangeShapes Go.WideShapes Go.ChangeAt Go.RowKit Go.Tg Go.Lg
noncomputable def laidC:List (String×DataW Unit):= [("unicode/utf8.first",Rows.laid_unicode_utf8_first),("unicode/utf8.acceptRanges",Rows.laid_unicode_utf8_acceptRanges),("internal/strconv.uint64pow10",Rows.laid_internal_strconv_uint64pow10),("math/bits.deBruijn32tab",Rows.laid_math_bits_deBruijn32tab),("math/bits.deBruijn64tab",Rows.laid_math_bits_deBruijn64tab),("strings.asciiSpace",Rows.laid_strings_asciiSpace),("unicode.White_Space",Rows.laid_unicode_White_Space)]
abbrev ngC:Nat:=3
theorem gPowC:Tryz.prog.globalNamed "internal/strconv.uint64pow10" =some 1:=by kernel_rfl
theorem gTabC:Tryz.prog.globalNamed "strings.asciiSpace" =some 2:=by kernel_rfl
theorem laid_plainC {W:World} (h:laidMetH Tryz.prog laidC W):laidMet Tryz.prog laidC W:=by rwa [MakeChecks.laidMetH_plain _ _ _ (by kernel_rfl)]at h
theorem pow_of_laidC {W:World} (h:laidMetH Tryz.prog laidC W):Lib.TabIs Tryz.prog W "internal/strconv.uint64pow10" .u64 Lib.pow10Tab:=by
 have h2:=(laid_plainC h).filter (fun x=>x.1== "internal/strconv.uint64pow10")
 have e:laidC.filter (fun x=>x.1== "internal/strconv.uint64pow10")= [("internal/strconv.uint64pow10",Lib.tabData .u64 Lib.pow10Tab)]:=by kernel_rfl
 rw [e]at h2
 exact Lib.tabIs_of_head (g:=1) (t:=157) (e:=60) (n:=20) gPowC (by kernel_rfl) (by kernel_rfl) (by kernel_rfl) (by kernel_rfl) (by kernel_rfl) h2
theorem tab_of_laidC {W:World} (h:laidMetH Tryz.prog laidC W):Lib.TabIs Tryz.prog W "strings.asciiSpace" .u8 Lib.asciiSpaceTab:=by
 have h2:=(laid_plainC h).filter (fun x=>x.1== "strings.asciiSpace")
 have e:laidC.filter (fun x=>x.1== "strings.asciiSpace")= [("strings.asciiSpace",Lib.tabData .u8 Lib.asciiSpaceTab)]:=by kernel_rfl
 rw [e]at h2
 exact Lib.tabIs_of_head (g:=2) (t:=185) (e:=5) (n:=256) gTabC (by kernel_rfl) (by kernel_rfl) (by kernel_rfl) (by kernel_rfl) (by kernel_rfl) h2
theorem sizeC {W:World} (h:laidMetH Tryz.prog laidC W):ngC≤W.heap.size:=by
 have h1:=(pow_of_laidC h).cell gPowC 0 (by decide)
 have h2:=(tab_of_laidC h).cell gTabC 0 (by decide)
 rcases Nat.lt_or_ge 1 W.heap.size with h3|h3
 ·rcases Nat.lt_or_ge 2 W.heap.size with h4|h4
  ·show _+1≤_
   omega
  ·simp [World.cell?,Array.getElem?_eq_none h4]at h2
 ·simp [World.cell?,Array.getElem?_eq_none h3]at h1
theorem tab10CL {W:World} (h:laidMetH Tryz.prog laidC W):Tab10 (LH.lift W (ngC)):=⟨by show 1<ngC;decide,pow_of_laidC h⟩
theorem tabCL {W:World} (h:laidMetH Tryz.prog laidC W):Tab (LH.lift W (ngC)):=⟨by show 2<ngC;decide,tab_of_laidC h⟩
theorem maxCL {W:World} (h:W.ShapedOpen Tryz.prog):MaxL (LH.lift W (ngC)):=by
 refine⟨by show 0<ngC;decide,?_⟩
 exact Go.Proofs.cell_of_shapedOpen_int (P:=Tryz.prog) (w:=W) (zero:=#[.int .i64 0]) (t:=3) (g:=0) h (of_decide_eq_true (by kernel_rfl)) (by kernel_rfl) rfl (by kernel_rfl) (by kernel_rfl) Tryz.underlying3
theorem returns_and_shaped {H:Type} {enc:TypeId×Value→H} {a:Assume} {C:Checked} {os:Os} {f:FuncId} {fn:Func} {s:ChangeSpec} {conds:List PathCond} {apart fresh handsOn again:Bool} {X:World→Array Value→Prop}
  (hX: ∀(w w':World) (args:Array Value),w.heap=w'.heap→X w args→X w' args)
  (own:Go.ownKnob C.prog.godebug=none) (started:os.Started) (noInit:C.prog.inits.idxOf? f=none) (hfn:C.prog.funcs[f]?=some fn)
  (witness: ∃(w:World) (tape:Tape) (i:Input),w.os=os∧(w.forCall tape i).Shaped C.prog∧i.vars= []∧Input.okWide C.prog (w.forCall tape i) .any w.heap.size f i∧
   ((s.pre enc C.prog fn conds apart (w.forCall tape i).memory i.args∧X (w.forCall tape i).memory i.args)∧sizedMet enc C.prog fn (OpenSpec.ofChange s) apart (w.forCall tape i).memory i.args)∧a.holds C.prog (lone (Frame.enter C.prog f i.args .normal) [] (w.forCall tape i)))
  (contract: ∀(W:World) (base:Nat) (args:Array Value) (ds gs:List (DataW H)) (before:List MemPlace),
   (∀(j:Nat) t v,fn.params[j]?=some t→args[j]?=some v→Value.okWide C.prog W .any base t v)→
   DataW.Whole enc C.prog fn.params.toList s.vars apart W args.toList ds gs before→
   X W args→W.ShapedOpen C.prog→
   Calls C.prog f args W fun e W'=> ∃v,e=.returned v∧s.post enc C.prog fn apart fresh handsOn again W args v W'):
  ReturnsInHanded a C os f .any (fun w args=>(s.pre enc C.prog fn conds apart w args∧X w args)∧sizedMet enc C.prog fn (OpenSpec.ofChange s) apart w args) (s.post enc C.prog fn apart fresh handsOn again):=by
 refine returnsInHanded_of_calls own started noInit witness ?_
 intro w tape i _ hsh _ hok hpre hholds
 obtain⟨_,_,_,fn',hfn',_,_,_,_,hval⟩:=hok
 have e:fn'=fn:=Option.some.inj (hfn'.symm.trans hfn)
 subst e
 obtain⟨⟨⟨ds,gs,before,hw,hc⟩,hx⟩,hz⟩:=hpre
 have hw':=DataW.Whole.of_heap (w':=w.forCall tape i) (by rfl) hw
 refine(contract (w.forCall tape i) w.heap.size i.args ds gs before hval hw' (hX _ _ _ (by rfl) hx) hsh).mono fun e W' ⟨v,he,hp⟩=>?_
 subst he
 exact ChangeSpec.post_blind hp
end Go.Proofs.YteeiipildjgdbaaGreatDoor
namespace Go.Proofs.YteeiipildjgdbaaGreatDoor.Sc
open Go.ChangeShapes Go.WideShapes Go.ChangeAt Go.RowKit Go.Tg Go.Lg
theorem cells_hdr:Tryz.prog.cellsOf 73=2:=by kernel_rfl
theorem cells_hdrs:Tryz.prog.cellsOf 51=1:=by kernel_rfl
theorem cells_dstr:Tryz.prog.cellsOf 9=1:=by kernel_rfl
theorem cells_dint:Tryz.prog.cellsOf 3=1:=by kernel_rfl
theorem hdr_of_trod {HH:Type} {enc:TypeId×Value→HH} {W:World} {base fuel:Nat} {sp:Nat→Bool} {held:Bool} {cs:List Value} {x:DataW HH×List MemPlace} (n:Nat) (hf:DataW.trod enc Tryz.prog W base sp held fuel 73 cs=some x): ∃a:Tg.Hd.Hdr,cs.map (lift1 n)= [str a.1,str a.2]:=by
 cases fuel with
 |zero=>simp [DataW.trod]at hf
 |succ m=>
  rw [DataW.trod_step]at hf
  unfold DataW.trodStep at hf
  simp only [Tryz.underlying73,Value.cells]at hf
  split at hf
  ·rename_i hs
   rw [cells_hdr]at hs
   match cs,hs with
   | [c0,c1],_=>
   simp only [Option.map_eq_some_iff]at hf
   obtain⟨xs,hx,e1⟩:=hf
   simp only [List.mapM_cons,List.mapM_nil,bind,Option.bind_eq_some_iff,pure,Option.some.injEq,cells_dstr]at hx
   obtain⟨y0,h0,_,⟨y1,h1,_,rfl,rfl⟩,rfl⟩:=hx
   obtain⟨s0,q0,_,_⟩:=DataW.trod_string Tryz.underlying9 h0
   obtain⟨s1,q1,_,_⟩:=DataW.trod_string Tryz.underlying9 h1
   simp at q0 q1
   subst q0;subst q1
   exact⟨(s0.data.toList,s1.data.toList),by simp only [str_ba];rfl⟩
  ·cases hf
theorem hrow_of {W:World} {g:Nat} {v:Value} {xs:List Tg.Hd.Hdr} (h:RowOf (LH.lift W g) 2 (fun(a:Tg.Hd.Hdr) cs=>cs= [str a.1,str a.2]) v xs):HRow (LH.lift W g) v xs:=by
 rcases h with h|⟨l,o,c,h1,_,h2,h3⟩
 ·exact .inl h
 ·refine .inr ⟨l,o,c,h1,fun hne=>?_⟩
  obtain⟨b,h4,h5,h6⟩:=h3 hne
  refine⟨b,h4,h2,fun i hi=>?_⟩
  have h7:=h6 i xs[i] (List.getElem?_eq_getElem hi)
  have hle:o+i*2+2≤b.cells.length:=by
   have:=Nat.mul_le_mul_right 2 (show i+1≤xs.length by omega)
   omega
  have e1:b.cells[o+i*2]?=((b.cells.drop (o+i*2)).take 2)[0]?:=by rw [List.getElem?_take,if_pos (by decide),List.getElem?_drop];rfl
  have e2:b.cells[o+i*2+1]?=((b.cells.drop (o+i*2)).take 2)[1]?:=by rw [List.getElem?_take,if_pos (by decide),List.getElem?_drop]
  exact⟨hle,h7,by rw [e1,h7];rfl,by rw [e2,h7];rfl⟩
theorem lift_int {n:Nat} {k:IntKind} {x:Int} :lift1 n (.int k x)=.int k x:=rfl
theorem lift_bool {n:Nat} {x:Bool} :lift1 n (.bool x)=.bool x:=rfl
theorem lift_dstr {n:Nat} (s:ByteArray):lift1 n (.string s)=str s.data.toList:=by rw [←str_ba];rfl
theorem cells_out:Tryz.prog.cellsOf 53=6:=by kernel_rfl
theorem out_of_trod {HH:Type} {enc:TypeId×Value→HH} {W:World} {g base fuel:Nat} {held:Bool} {cs:List Value} {x:DataW HH×List MemPlace} (hw0:0<W.heap.size) (hf:DataW.trod enc Tryz.prog W base (fun _=>true) held fuel 53 cs=some x):
  ∃(o:Tg.Sc.Out) (p:Value),cs.map (lift1 W.heap.size)=outl o p∧HRow (LH.lift W g) p o.hdrs∧o.hdrs.length≤maxLen:=by
 cases fuel with
 |zero=>simp [DataW.trod]at hf
 |succ n=>
  rw [DataW.trod_step]at hf
  unfold DataW.trodStep at hf
  simp only [Tryz.underlying53,Value.cells]at hf
  split at hf
  ·rename_i hs
   rw [cells_out]at hs
   match cs,hs with
   | [c0,c1,c2,c3,c4,c5],_=>
   simp only [Option.map_eq_some_iff]at hf
   obtain⟨xs,hx,e1⟩:=hf
   simp only [List.mapM_cons,List.mapM_nil,bind,Option.bind_eq_some_iff,pure,Option.some.injEq,cells_dstr,cells_dint,cells_hdrs]at hx
   obtain⟨y0,h0,_,⟨y1,h1,_,⟨y2,h2,_,⟨y3,h3,_,⟨y4,h4,_,⟨y5,h5,_,rfl,rfl⟩,rfl⟩,rfl⟩,rfl⟩,rfl⟩,rfl⟩:=hx
   obtain⟨k0,e0,rfl,w0⟩:=DataW.trod_int Tryz.underlying3 h0
   obtain⟨k1,e1',rfl,w1⟩:=DataW.trod_int Tryz.underlying3 h1
   obtain⟨k2,e2,rfl,w2⟩:=DataW.trod_int Tryz.underlying3 h2
   obtain⟨pv,l,hc,hr,hl⟩:=row_of_trod (El:=fun(a:Tg.Hd.Hdr) cs=>cs= [str a.1,str a.2]) (g:=g) Tryz.underlying51 cells_hdr (by decide) hw0 (fun fuel cs y hy=>hdr_of_trod W.heap.size hy) h3
   obtain⟨s4,q4,_,_⟩:=DataW.trod_string Tryz.underlying9 h4
   obtain⟨s5,q5,_,_⟩:=DataW.trod_string Tryz.underlying9 h5
   simp at e0 e1' e2 hc q4 q5
   subst e0;subst e1';subst e2;subst hc;subst q4;subst q5
   exact⟨⟨k0,k1,k2,l,s4.data.toList,s5.data.toList⟩,lift1 W.heap.size c3,by simp only [List.map_cons,List.map_nil,lift_int,lift_dstr],hrow_of hr,hl⟩
  ·cases hf
theorem orow_of {W:World} {g:Nat} {v:Value} {xs:List Tg.Sc.Out} (h:RowOf (LH.lift W g) 6 (fun(o:Tg.Sc.Out) cs=> ∃p,cs=outl o p∧HRow (LH.lift W g) p o.hdrs∧o.hdrs.length≤maxLen) v xs):ORow (LH.lift W g) v xs∧ ∀o∈xs,o.hdrs.length≤maxLen:=by
 rcases h with⟨h,rfl⟩|⟨l,o,c,h1,_,h2,h3⟩
 ·exact⟨.inl ⟨h,rfl⟩,fun o ho=>by cases ho⟩
 ·refine⟨.inr ⟨l,o,c,h1,fun hne=>?_⟩,fun a ha=>?_⟩
  ·obtain⟨b,h4,h5,h6⟩:=h3 hne
   refine⟨b,h4,h2,h5,fun i hi=>?_⟩
   obtain⟨p,q1,q2,_⟩:=h6 i xs[i] (List.getElem?_eq_getElem hi)
   exact⟨p,q1,q2⟩
  ·obtain⟨b,h4,h5,h6⟩:=h3 (fun e=>by rw [e]at ha;cases ha)
   obtain⟨i,hi,rfl⟩:=List.getElem_of_mem ha
   obtain⟨p,_,_,q3⟩:=h6 i xs[i] (List.getElem?_eq_getElem hi)
   exact q3
theorem open_outs {HH:Type} {enc:TypeId×Value→HH} {W:World} {g base b0:Nat} {held:Bool} {r:Reach} {v:Value} {d:DataW HH} {ps:List MemPlace} (hw0:0<W.heap.size)
  (hval:Value.okWide Tryz.prog W r b0 32 v) (hd:DataW.Trod enc Tryz.prog W base (fun _=>true) held 32 v d ps):
  ∃(l:List Tg.Sc.Out) (p:Value),liftV W.heap.size v=p∧ORow (LH.lift W g) p l∧l.length≤maxLen∧ ∀o∈l,o.hdrs.length≤maxLen:=by
 obtain⟨ad,len,cap,rfl⟩:=okWide_slice Tryz.underlying32 hval
 obtain⟨fuel,hf⟩:=hd
 obtain⟨vv,xs,hc,hr,hl⟩:=row_of_trod (El:=fun(o:Tg.Sc.Out) cs=> ∃p,cs=outl o p∧HRow (LH.lift W g) p o.hdrs∧o.hdrs.length≤maxLen) (g:=g) Tryz.underlying32 cells_out (by decide) hw0 (fun fuel cs y hy=>by
  obtain⟨o,p,h1,h2,h3⟩:=out_of_trod (g:=g) hw0 hy
  exact⟨o,p,h1,h2,h3⟩) hf
 simp only [Value.cells,List.cons.injEq,and_true]at hc
 subst hc
 obtain⟨h1,h2⟩:=orow_of hr
 exact⟨xs,_,rfl,h1,hl,h2⟩
end Go.Proofs.YteeiipildjgdbaaGreatDoor.Sc
