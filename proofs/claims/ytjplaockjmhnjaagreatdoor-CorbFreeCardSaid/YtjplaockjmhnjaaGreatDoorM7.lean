/-
  Texts joined, part 7: MiRefE, MiSaid, MiSaidB, MiRefF, ObJudge, ObOf, ObCorbD, ObLaw, ObCorbE, SnPar, SnFewB, ObCorbF, DoorN, DoorR, DoorT, ObCorbG.
-/
import Derived.Test.YtjplaockjmhnjaaGreatDoorM6
import Derived.Test.YtjplaockjmhnjaaGreatDoorM5
import Derived.Test.YtjplaockjmhnjaaGreatDoorM4
import Derived.Test.YtjplaockjmhnjaaGreatDoorRows
import Derived.Test.YtjplaockjmhnjaaGreatDoorM1
import Derived.ProofKit
import Derived.WideShapes
import Derived.RowKit
import Derived.ChangeArms
import Derived.LaidMore
import Derived.LaidSub
import Derived.Lib.LaidTab
import Derived.Stop.Joined
import Derived.Shelf.Vars
import Derived.HandedShaped
import Derived.Lay
import Derived.DataShut
set_option linter.unusedSimpArgs false
set_option linter.unusedVariables false
set_option maxRecDepth 100000
namespace Tg.Mi
theorem ess_every: ∀t s:List UInt8,essP t s=every↔t= [42]∧s= [42]
 | [],s=>by simp [essP,every]
 | [a],s=>by
  simp [essP,every]
 | [a,b],s=>by
  simp [essP,every]
 |a::b::c::r,s=>by
  simp [essP,every]
end Tg.Mi
namespace Go.Proofs.YtjplaockjmhnjaaGreatDoor.Mi
open Go.Lg Go.Tg
section
variable {H H':LH} {N M:Nat} {s t u name set:List UInt8} {v w:Value} {ps:List Tg.Mi.Par} {xs:List (List UInt8)} {m:Tg.Mi.Mim}
theorem bs0m:lbuildSlice Tryz.prog 81 0 [] H=some (sl H.n 0 0,H.new ⟨[],41,true⟩):=by
 unfold lbuildSlice
 simp [Instr.fill,Array.range,Value.cells]
 try rfl
theorem rall_ex (h:SOwn M H v xs) (hn:xs.length≤1000) (hm: ∀x∈xs,x.length≤1000) (hl:(Tg.Hd.joinC xs).length≤5000) (hN:N≤H.n):Gives Tryz.prog EJ 75 [v] H fun H' r=>OwnG elM 41 N H.n H' r (Tg.Mi.allP (Tg.Mi.valuesP xs)):=by
 refine gives_of ?_ (fun v H' hf h=>h.flat hf)
 refine LC_runs (P:=Tryz.prog) (E:=EJ) (f:=75) rfl Tryz.func75 rfl (Nat.le_of_ble_eq_true rfl) (by decide) (by kernel_rfl) ?_
 obtain⟨H0,hH0⟩: ∃H0,H0=H.new ⟨[],41,true⟩:=⟨_,rfl⟩
 have le0:H.le H0:=by rw [hH0];exact le_refl.new
 have n0:H0.n=H.n+1:=by rw [hH0];rfl
 have own0:OwnG elM 41 N H.n H0 (sl H.n 0 0) []:=by rw [hH0];exact own_nil (Nat.le_refl _)
 obtain⟨v1,H1,e1,le1,r1⟩:=rvalues_ex (N:=N) (RowN.keep h le0.1 (fun k _ _ hk=>le0.2 k hk)) hn hm (by omega) (by omega)
 obtain⟨hb1,hb2⟩:=Tg.Mi.valuesP_bd hl
 generalize Tg.Mi.valuesP xs=ys at*
 have hlen: ∀(G H':LH),G.n=G.n→lbuiltin Tryz.prog .len [60] [v1] H'=some (.int .i64 ys.length,H'):=fun _ H' _=>r1.len (P:=Tryz.prog) (t:=60) (H':=H') Tryz.underlying60
 have hlen:=fun H'=>hlen H' H' rfl
 simp [bs0m,←hH0,e1]
 refine loop_ind (fun(i:Nat) fr' H'=> ∃vo,fr' 3=vo∧fr' 4=v1∧fr' 5=.int .i64 i∧i≤ys.length∧OwnG elM 41 N H.n H' vo (Tg.Mi.allP (ys.take i))∧RowG elS 9 N H' v1 ys∧H.le H') (fun i=>ys.length-i) 0 ⟨_,by simp,by simp,by simp,Nat.zero_le _,own0.le le1,r1,le0.trans le1⟩ ?_
 rintro i fr' H2 ⟨vo,f3,f4,f5,hi,how,r2,hle⟩ ih
 by_cases hlt:i<ys.length
 ·have q:=eq_true (show(i:Int)<(ys.length:Int) by omega)
  have hw:IntKind.i64.wrap ((i:Int)+1)=((i+1:Nat):Int):=by rw [wrapI (by omega) (by omega)];omega
  obtain⟨k,o,g1,g2,g3⟩:=str_at r2 hlt
  have g4:=g3 H2 rfl
  have hyl:=hb2 ys[i] (List.getElem_mem hlt)
  have hnew:Tg.Mi.allP (ys.take (i+1))=Tg.Mi.allP (ys.take i)++(match Tg.Mi.oneP ys[i]with|some m=> [m]|none=> []):=by
   rw [List.take_succ_eq_append_getElem hlt]
   unfold Tg.Mi.allP
   rw [List.filterMap_append]
   congr 1
   simp only [List.filterMap_cons,List.filterMap_nil]
   cases Tg.Mi.oneP ys[i]<;>rfl
  have hol:(Tg.Mi.allP (ys.take i)).length≤i:=Nat.le_trans (List.length_filterMap_le _ _) (by rw [List.length_take];omega)
  have hn2:=hle.1
  obtain⟨v3,H3,e3,le3,r3⟩:=rparse_ex (s:=ys[i]) (show N≤H2.n by omega) (by omega)
  have how3:=how.le le3
  have hbd:=fun m h=>Tg.Mi.parseP_bd (B:=5000) (m:=m) hyl (trimH_len _) h
  have ihx:=fun fr2 H5=>ih (i+1) fr2 H5 (by omega)
  clear ih
  rw [hnew]at ihx
  unfold Tg.Mi.oneP at ihx
  generalize Tg.Mi.allP (ys.take i)=out at*
  generalize ys[i]=y at*
  have hn3:=le3.1
  have hle3:=hle.trans le3
  cases hp:Tg.Mi.parseP y with
  |none=>
   rw [hp]at r3 ihx
   have r3:v3=.tuple #[mv [] [] (.slice none 0 0),.int .i64 2]:=r3
   subst r3
   have hfin:=fun fr2 (g3:fr2 3=vo) (g4:fr2 4=v1) (g5:fr2 5=.int .i64 ((i+1:Nat):Int))=>ihx fr2 (H3.new ⟨[str [],str [],.slice none 0 0],41,true⟩) ⟨vo,g3,g4,g5,by omega,by simpa using how3.le le_refl.new,r2.le (le3.trans le_refl.new),hle3.new⟩
   clear ihx
   simp [f3,f4,f5,hlen,q,hlt,g1,g4,e3]
   refine hfin _ ?_ ?_ ?_
   all_goals simp [f3,f4,hw]
  |some m=>
   rw [hp]at r3 ihx
   obtain⟨vp,rfl,r3⟩:=r3
   have hcp:=r3.cell
   obtain⟨H4,hH4⟩: ∃H4,H4=H3.new ⟨[str m.t,str m.s,vp],41,true⟩:=⟨_,rfl⟩
   have le4:H3.le H4:=by rw [hH4];exact le_refl.new
   have g6:H4.get H3.n=some ⟨[str m.t,str m.s,vp],41,true⟩:=by rw [hH4];exact get_new
   have how4:=how3.le le4
   have hn4:=le4.1
   have hle4:=hle3.trans le4
   have hev:=Tg.Mi.ess_every m.t m.s
   by_cases hc:Tg.Mi.essP m.t m.s=Tg.Mi.every
   ·simp only [if_pos hc,List.append_nil]at ihx
    obtain⟨c1,c2⟩:=hev.1 hc
    have c1:=eq_true c1
    have c2:=eq_true c2
    have hfin:=fun fr2 (g3:fr2 3=vo) (g4:fr2 4=v1) (g5:fr2 5=.int .i64 ((i+1:Nat):Int))=>ihx fr2 H4 ⟨vo,g3,g4,g5,by omega,how4,r2.le (le3.trans le4),hle4⟩
    clear ihx
    simp [f3,f4,f5,hlen,q,hlt,g1,g4,e3,←hH4,hcp,g6,c1,c2]
    refine hfin _ ?_ ?_ ?_
    all_goals simp [f3,f4,hw]
   ·simp only [if_neg hc]at ihx
    have hnc:=fun h=>hc (hev.2 h)
    obtain⟨v5,H5,a5,r5,n5,k5,o5,kp5⟩:=how4.app (t:=81) (cs:= [str m.t,str m.s,vp]) (a:=m) Tryz.underlying81 lesz_mime hN (by omega) (by unfold maxElems;omega) ⟨vp,rfl,r3.le le4⟩ (by show¬41=87;decide)
    have hfin:=fun fr2 (g3:fr2 3=v5) (g4:fr2 4=v1) (g5:fr2 5=.int .i64 ((i+1:Nat):Int))=>ihx fr2 H5 ⟨v5,g3,g4,g5,by omega,r5,(r2.le (le3.trans le4)).keep (kp5.weak (fun t ht=>by rcases ht with h|h;exact(by rw [h];decide);exact h.elim)),⟨by omega,fun k hk=>by rw [k5 k (by omega) (how4.off_lt hk)];exact hle4.2 k hk⟩⟩
    clear ihx
    by_cases c1:m.t= [42]
    ·have c2:(m.s= [42])=False:=eq_false (fun h=>hnc ⟨c1,h⟩)
     have c1:=eq_true c1
     simp [f3,f4,f5,hlen,q,hlt,g1,g4,e3,←hH4,hcp,g6,c1,c2,bs1m,a5]
     refine hfin _ ?_ ?_ ?_
     all_goals simp [f3,f4,hw]
    ·have c1:=eq_false c1
     simp [f3,f4,f5,hlen,q,hlt,g1,g4,e3,←hH4,hcp,g6,c1,bs1m,a5]
     refine hfin _ ?_ ?_ ?_
     all_goals simp [f3,f4,hw]
 ·have q:=eq_false (show¬(i:Int)<(ys.length:Int) by omega)
  rw [List.take_of_length_le (by omega)]at how
  clear ih
  simp [f3,f4,f5,hlen,q,hlt]
  exact⟨hle,how⟩
theorem rstep_ex (hr:RowG elP 87 N H v m.ps) (hl:m.ps.length≤10000) (hN:N≤H.n) (hs: ∀p∈m.ps,p.1.length≤1000000∧p.2.length≤1000000) (ht:m.t.length≤1000000) (hu:m.s.length≤1000000) (ht':t.length≤1000000) (hu':u.length≤1000000) (hset:set.length≤1000000) (hw:cellB w=true):
  Gives Tryz.prog EJ 76 [mv t u w,str set,mv m.t m.s v] H fun H' r=> ∃v',r=.tuple #[mv (Tg.Mi.stepP t u set m).1.t (Tg.Mi.stepP t u set m).1.s v',str (Tg.Mi.stepP t u set m).2]∧RowG elP 87 N H' v' (Tg.Mi.stepP t u set m).1.ps:=by
 refine gives_of ?_ (fun v H' hf h=>by
  obtain⟨w,rfl,h⟩:=h
  exact⟨w,rfl,h.flat (flat_mvt hf h.cell)⟩)
 refine LC_runs (P:=Tryz.prog) (E:=EJ) (f:=76) rfl Tryz.func76 rfl (Nat.le_of_ble_eq_true rfl) (by decide) (by kernel_rfl) ?_
 have hcv:=hr.cell
 obtain⟨H1,hH1⟩: ∃H1,H1=((H.new ⟨[str t,str u,w],41,true⟩).new ⟨[str m.t,str m.s,v],41,true⟩).new ⟨[str [],str [],.slice none 0 0],41,true⟩:=⟨_,rfl⟩
 have le1:H.le H1:=by rw [hH1];exact le_refl.new.new.new
 have n1:H1.n=H.n+1+1+1:=by rw [hH1];rfl
 have a1:H1.get H.n=some ⟨[str t,str u,w],41,true⟩:=by rw [hH1,get_new_ne (by simp;omega),get_new_ne (by simp),get_new]
 have b1:H1.get (H.n+1)=some ⟨[str m.t,str m.s,v],41,true⟩:=by rw [hH1,get_new_ne (by simp)];exact get_new
 have c1:H1.get (H.n+1+1)=some ⟨[str [],str [],.slice none 0 0],41,true⟩:=by rw [hH1];exact get_new
 have hr1:=hr.le le1
 have e1:=pat_k (H:=H1) (t:=m.t) (u:=m.s) (name:= [99,104,97,114,115,101,116]) hr1 (by omega)
 have cat1:=cat_s (x:=t) (y:= [47]) (by simp;omega)
 have cat2:=cat_s (x:=t++ [47]) (y:=u) (by simp;omega)
 have cat3:=cat_s (x:=m.t) (y:= [47]) (by simp;omega)
 have cat4:=cat_s (x:=m.t++ [47]) (y:=m.s) (by simp;omega)
 have d1:(H.n=H.n+1)=False:=eq_false (by omega)
 have d2:(H.n=H.n+1+1)=False:=eq_false (by omega)
 have d3:(H.n+1=H.n+1+1)=False:=eq_false (by omega)
 have d4:(H.n+1+1=H.n+1)=False:=eq_false (by omega)
 have d5:(H.n+1+1=H.n)=False:=eq_false (by omega)
 have d6:(H.n+1=H.n)=False:=eq_false (by omega)
 have fin: ∀(G:LH) (zs:List Tg.Mi.Par) (x:Value),G.get (H.n+1+1)=some ⟨[str [],str [],.slice none 0 0],41,true⟩→RowG elP 87 N G x zs→RowG elP 87 N (G.set (H.n+1+1) ⟨[str m.t,str m.s,x],41,true⟩) x zs:=fun G zs x h2 h3=>h3.keep1 (Nat.le_refl _) h2 (by show 41≠87;decide) (fun h=>h) (by omega) (fun k _ hne=>get_set_ne hne)
 unfold Tg.Mi.stepP
 by_cases q1:Tg.Mi.essP t u=Tg.Mi.essP m.t m.s
 ·rw [if_neg (fun h=>h q1)]
  have q1:=eq_true (show t++47::u=m.t++47::m.s from q1)
  obtain⟨G1,hG1⟩: ∃G1,G1=H1.new ⟨[str m.t,str m.s,v],41,true⟩:=⟨_,rfl⟩
  have leG1:H1.le G1:=by rw [hG1];exact le_refl.new
  have nG1:G1.n=H.n+1+1+1+1:=by rw [hG1,n_new,n1]
  have gG1:G1.get (H.n+1+1+1)=some ⟨[str m.t,str m.s,v],41,true⟩:=by rw [hG1];exact get_new_eq n1.symm
  have bG1:=(leG1.2 (H.n+1) (by omega)).trans b1
  obtain⟨v2,G2,e2,r2,le2⟩:=OwnG.copy (M:=G1.n) (P:=Tryz.prog) (t:=39) (hr1.le leG1) Tryz.underlying39 lesz_par (by unfold maxElems;omega) (Nat.le_refl _)
  obtain⟨v3,G3,e3,r3,n3,k3,o3,kp3⟩:=r2.app (t:=39) (cs:= [str Tg.Mi.charset,str set]) (a:=(Tg.Mi.charset,set)) Tryz.underlying39 lesz_par (by omega) le2.1 (by unfold maxElems;omega) rfl (fun h=>h)
  rw [nG1]at e2
  have cv3:=r3.cell
  have n2:=le2.1
  have off: ∀k,k<G1.n→offRow v2 k:=fun k hk=>r2.off_lt hk
  have gG3:G3.get (H.n+1+1+1)=some ⟨[str m.t,str m.s,v],41,true⟩:=by rw [k3 _ (by omega) (off _ (by omega)),le2.2 _ (by omega)];exact gG1
  have old3: ∀k,k<H1.n→G3.get k=H1.get k:=fun k hk=>by rw [k3 k (by omega) (off _ (by omega)),le2.2 _ (by omega)];exact leG1.2 k hk
  obtain⟨G4,hG4⟩: ∃G4,G4=G3.set (H.n+1+1+1) ⟨[str m.t,str m.s,v3],41,true⟩:=⟨_,rfl⟩
  have nG4:G4.n=G3.n:=by rw [hG4];rfl
  have gG4:G4.get (H.n+1+1+1)=some ⟨[str m.t,str m.s,v3],41,true⟩:=by rw [hG4];exact get_set
  have old4: ∀k,k<H1.n→G4.get k=H1.get k:=fun k hk=>by rw [hG4,get_set_ne (by omega)];exact old3 k hk
  have le4:H1.le G4:=⟨by omega,old4⟩
  have r4:RowG elP 87 N G4 v3 (m.ps++ [(Tg.Mi.charset,set)]):=by
   rw [hG4]
   exact(r3.keep1 (H':=G3.set (H.n+1+1+1) ⟨[str m.t,str m.s,v3],41,true⟩) (Nat.le_refl _) gG3 (by show 41≠87;decide) (fun h=>h) (by omega) (fun k _ hne=>get_set_ne hne)).row
  have hps: ∀p∈m.ps++ [(Tg.Mi.charset,set)],p.1.length≤1000000∧p.2.length≤1000000:=fun p hp=>by
   rcases List.mem_append.1 hp with h|h
   ·exact hs p h
   ·rw [List.mem_singleton.1 h];exact⟨show Tg.Mi.charset.length≤1000000 by decide,hset⟩
  have e4:=rgood_k (t:=m.t) (u:=m.s) r4 (by rw [List.length_append,List.length_singleton];omega) hps ht hu
  have b4:=(old4 (H.n+1) (by omega)).trans b1
  have c4:=(old4 (H.n+1+1) (by omega)).trans c1
  have hbp: ∀H:LH,lbuildSlice Tryz.prog 39 1 [(0,.agg #[str Tg.Mi.charset,str set])] H=some (sl H.n 1 1,H.new ⟨[str Tg.Mi.charset,str set],87,true⟩):=fun H=>bs1p (a:=(Tg.Mi.charset,set))
  rw [charset_eq]at hbp e3
  have lf: ∀a:List UInt8,lfill Tryz.prog 87 [str [],str []] [(0,str [99,104,97,114,115,101,116]),(1,str a)]=some [str [99,104,97,114,115,101,116],str a]:=fun a=>by
   rw [lfill_cell (o:=0) (n:=1) (g:=false) (by simp) rfl (by simp) (by simp),lfill_cell (o:=1) (n:=1) (g:=false) (by simp) rfl (by simp) (by simp)]
   simp
  rcases Tg.Mi.fnd_ge Tg.Mi.charset m.ps 0 with hf|⟨j,hf,hj,_⟩
  ·have hpm:Tg.Mi.parmP m.ps Tg.Mi.charset=([],false):=by unfold Tg.Mi.parmP;rw [hf,if_pos (by decide)]
   rw [hpm]
   rw [charset_eq]at hf
   rw [hf]at e1
   by_cases q3:set= []
   ·subst q3
    simp only [ne_eq,not_true_eq_false,false_and,and_false,if_false]
    simp [hw,hcv,←hH1,e1,cat1,cat2,cat3,cat4,a1,b1,c1,q1,d1,d2,d3,d4,d5,d6,←hG1,n1,bs0p,nG1,bG1,e2,hbp,e3,lf,cv3,gG3,←hG4,b4,c4]
    exact⟨(le1.trans le4).set (by omega),fin _ _ _ c4 (hr1.le le4)⟩
   ·have q3f:=eq_false q3
    cases q4:Tg.Mi.goodM (Tg.Mi.withP m Tg.Mi.charset set)with
    |true=>
     rw [show Tg.Mi.goodM ⟨m.t,m.s,m.ps++ [(Tg.Mi.charset,set)]⟩=true from q4]at e4
     rw [if_pos ⟨rfl,q3,rfl⟩]
     simp [hw,hcv,←hH1,e1,cat1,cat2,cat3,cat4,a1,b1,c1,q1,q3f,d1,d2,d3,d4,d5,d6,←hG1,n1,bs0p,nG1,bG1,e2,hbp,e3,lf,cv3,gG3,←hG4,gG4,e4,b4,c4]
     exact⟨(le1.trans le4).set (by omega),v3,⟨rfl,rfl,rfl⟩,fin _ _ _ c4 r4⟩
    |false=>
     rw [show Tg.Mi.goodM ⟨m.t,m.s,m.ps++ [(Tg.Mi.charset,set)]⟩=false from q4]at e4
     simp only [Bool.false_eq_true,and_false,if_false]
     simp [hw,hcv,←hH1,e1,cat1,cat2,cat3,cat4,a1,b1,c1,q1,q3f,d1,d2,d3,d4,d5,d6,←hG1,n1,bs0p,nG1,bG1,e2,hbp,e3,lf,cv3,gG3,←hG4,gG4,e4,b4,c4]
     exact⟨(le1.trans le4).set (by omega),fin _ _ _ c4 (hr1.le le4)⟩
  ·rw [Nat.zero_add]at hf
   have hpm:(Tg.Mi.parmP m.ps Tg.Mi.charset).2=true:=by unfold Tg.Mi.parmP;rw [hf,if_neg (by omega)]
   rw [hpm]
   simp only [Bool.true_eq_false,false_and,if_false]
   rw [charset_eq]at hf
   rw [hf]at e1
   have q:=eq_false (show¬(j:Int)<0 by omega)
   simp [hw,hcv,←hH1,e1,cat1,cat2,cat3,cat4,a1,b1,c1,q1,q,d1,d2,d3,d4,d5,d6,←hG1,n1,bs0p,nG1,bG1,e2,hbp,e3,lf,cv3,gG3,←hG4,b4,c4]
   exact⟨(le1.trans le4).set (by omega),fin _ _ _ c4 (hr1.le le4)⟩
 ·rw [if_pos q1]
  have q1:=eq_false (show¬t++47::u=m.t++47::m.s from q1)
  unfold Tg.Mi.parmP
  rw [charset_eq]
  rcases Tg.Mi.fnd_ge [99,104,97,114,115,101,116] m.ps 0 with hf|⟨j,hf,hj,_⟩
  ·rw [hf]at e1
   rw [hf,if_pos (by decide)]
   simp [hw,hcv,←hH1,e1,cat1,cat2,cat3,cat4,a1,b1,c1,q1,d1,d2,d3,d4,d5,d6]
   exact⟨le1.set (by omega),fin _ _ _ c1 hr1⟩
  ·rw [Nat.zero_add]at hf
   rw [hf]at e1
   rw [hf,if_neg (by omega),Int.toNat_natCast,getD_at hj]
   obtain⟨k,o,g1,g2,g3⟩:=par_at hr hj
   obtain⟨_,_,g6⟩:=g3 H1 (le1.2 k g2)
   have g7:=fun B=>(g3 (H1.set (H.n+1+1) B) (by rw [get_set_ne (by omega)];exact le1.2 k g2)).2.2
   have q:=eq_false (show¬(j:Int)<0 by omega)
   simp [hw,hcv,←hH1,e1,cat1,cat2,cat3,cat4,a1,b1,c1,q1,q,g1,g6,g7,d1,d2,d3,d4,d5,d6]
   exact⟨le1.set (by omega),fin _ _ _ c1 hr1⟩
end
end Go.Proofs.YtjplaockjmhnjaaGreatDoor.Mi
set_option linter.unusedSimpArgs false
set_option linter.unusedVariables false
set_option maxRecDepth 100000
namespace Tg.Mi
def ctype:List UInt8:= [67,111,110,116,101,110,116,45,84,121,112,101]
def xopt:List UInt8:= [88,45,67,111,110,116,101,110,116,45,84,121,112,101,45,79,112,116,105,111,110,115]
def word:List UInt8:= [110,111,115,110,105,102,102]
def SmH (l:List Tg.Hd.Hdr):Prop:=l.length≤8∧ ∀h∈l,h.1.length≤30∧h.2.length≤100
def typeP (l:List Tg.Hd.Hdr):Option Mim:=extractP (Tg.Hd.getP ctype l)
def rawP (l:List Tg.Hd.Hdr):List UInt8:=(Tg.Hd.getP ctype l).getLast?.getD []
def noP (l:List Tg.Hd.Hdr):Bool:=match valuesP (Tg.Hd.getP xopt l)with
 | []=>false
 |a::_=>decide (Tg.Lo.lower a=Tg.Lo.lower word)
def noM:Mim:=⟨[],[],[]⟩
theorem getP_mem {name:List UInt8} {l:List Tg.Hd.Hdr} {x:List UInt8} (h:x∈Tg.Hd.getP name l): ∃a∈l,a.2=x:=by
 unfold Tg.Hd.getP at h
 obtain⟨a,ha,e⟩:=List.mem_map.1 h
 exact⟨a,(List.mem_filter.1 ha).1,e⟩
theorem joinS {name:List UInt8} {l:List Tg.Hd.Hdr} (h:SmH l):(Tg.Hd.joinC (Tg.Hd.getP name l)).length≤1000:=by
 have h1:=Tg.Hd.joinC_len (m:=100) (xs:=Tg.Hd.getP name l) (fun x hx=>by
  obtain⟨a,ha,rfl⟩:=getP_mem hx
  exact(h.2 a ha).2) (Tg.Hd.getP name l).length (Nat.le_refl _)
 rw [List.take_of_length_le (Nat.le_refl _)]at h1
 have h2:=Tg.Hd.getP_len name l
 have h3:=h.1
 have h4:=Nat.mul_le_mul_right (100+2) (show(Tg.Hd.getP name l).length≤8 by omega)
 omega
end Tg.Mi
namespace Go.Proofs.YtjplaockjmhnjaaGreatDoor
open Go.Lg Go.Tg
theorem HRow.ro {H:LH} {v:Value} {l:List Tg.Hd.Hdr} (h:HRow H v l):HRow H.ro v l:=by
 rcases h with h|⟨k,o,c,h1,h2⟩
 ·exact .inl h
 ·refine .inr ⟨k,o,c,h1,fun hne=>?_⟩
  obtain⟨b,h2,h3,h4⟩:=h2 hne
  exact⟨{ b with rw:=false },by rw [get_ro,h2];rfl,by rw [n_ro];exact h3,h4⟩
end Go.Proofs.YtjplaockjmhnjaaGreatDoor
namespace Go.Proofs.YtjplaockjmhnjaaGreatDoor.Mi
open Go.Lg Go.Tg
abbrev svp (m:Tg.Mi.Mim) (v:Value) (has no bug:Bool):Value:=.agg #[str m.t,str m.s,v,.bool has,.bool no,.bool bug]
section
variable {H H':LH} {N M:Nat} {v w:Value} {l:List Tg.Hd.Hdr} {m:Tg.Mi.Mim} {xs:List (List UInt8)}
theorem nextract_ex (hr:HRow H v l) (hs:Tg.Mi.SmH l) (hN:N≤H.n):Gives Tryz.prog EJ 68 [v] H fun H' r=> ∃w,r=.tuple #[mv ((Tg.Mi.typeP l).getD Tg.Mi.noM).t ((Tg.Mi.typeP l).getD Tg.Mi.noM).s w,.bool (Tg.Mi.typeP l).isSome]∧RowG elP 87 N H' w ((Tg.Mi.typeP l).getD Tg.Mi.noM).ps:=by
 refine gives_of ?_ (fun v H' hf h=>by
  obtain⟨w,rfl,h⟩:=h
  exact⟨w,rfl,h.flat (flat_mvt hf h.cell)⟩)
 refine LC_runs (P:=Tryz.prog) (E:=EJ) (f:=68) rfl Tryz.func68 rfl (Nat.le_of_ble_eq_true rfl) (by decide) (by kernel_rfl) ?_
 obtain⟨H0,hH0⟩: ∃H0,H0=H.new ⟨[str [],str [],.slice none 0 0],41,true⟩:=⟨_,rfl⟩
 have le0:H.le H0:=by rw [hH0];exact le_refl.new
 have n0:H0.n=H.n+1:=by rw [hH0];rfl
 have a0:H0.get H.n=some ⟨[str [],str [],.slice none 0 0],41,true⟩:=by rw [hH0,get_new]
 obtain⟨v1,H1,e1,o1⟩:=Get_ex (name:=Tg.Mi.ctype) (hr.keep le0.1 le0.2) (by have:=hs.1;omega) (fun h hh=>by have:=(hs.2 h hh).1;omega)
 have le1:H0.le H1:=⟨o1.le,o1.old⟩
 have hjl:=Tg.Mi.joinS (name:=Tg.Mi.ctype) hs
 have hgl:=Tg.Hd.getP_len Tg.Mi.ctype l
 obtain⟨v2,H2,e2,le2,r2⟩:=Extract_ex (N:=N) o1.row (by have:=hs.1;omega) (by omega) (by have:=le1.1;omega)
 rw [show Tg.Mi.ctype= [67,111,110,116,101,110,116,45,84,121,112,101] from rfl]at e1
 have a2:=((le1.trans le2).2 H.n (by omega)).trans a0
 have hle:=le0.trans (le1.trans le2)
 have n2:=hle.1
 have hlt2:H.n<H2.n:=by have:=(le1.trans le2).1;omega
 have m1:(H.n=H2.n)=False:=eq_false (by omega)
 change MimR 4 N (Tg.Mi.typeP l) H2 v2 at r2
 cases hx:Tg.Mi.typeP l with
 |none=>
  rw [hx]at r2
  have r2:v2=.tuple #[mv [] [] (.slice none 0 0),.int .i64 4]:=r2
  subst r2
  simp [←hH0,e1,e2,a2,m1,Tg.Mi.noM]
  exact⟨hle.new,RowG.nil⟩
 |some m=>
  rw [hx]at r2
  obtain⟨vp,rfl,r2⟩:=r2
  have hcp:=r2.cell
  simp [←hH0,e1,e2,a2,m1,hcp,Tg.Mi.noM]
  refine⟨hle.new,(r2.le (H':=H2.new ⟨[str m.t,str m.s,vp],41,true⟩) le_refl.new).keep ⟨Nat.le_refl _,fun k b hk hb hor=>by
    by_cases hkc:k=H.n
    ·subst hkc
     rw [get_new_ne (by omega),a2]at hb
     injection hb with hb
     subst hb
     rcases hor with h4|h4|h4
     ·omega
     ·exact absurd h4 (by show 41≠87;decide)
     ·exact h4.elim
    ·rw [get_set_ne hkc];exact hb⟩⟩
theorem nraw_k (hr:HRow H v l) (hs:Tg.Mi.SmH l): ∃b,LC Tryz.prog EJ 69 [v] H=some (.tuple #[str (Tg.Mi.rawP l),.bool b],H):=by
 obtain⟨v1,H1,e1,o1⟩:=Get_ex (name:=Tg.Mi.ctype) hr (by have:=hs.1;omega) (fun h hh=>by have:=(hs.2 h hh).1;omega)
 have hgl:=Tg.Hd.getP_len Tg.Mi.ctype l
 have hl8:=hs.1
 rw [show Tg.Mi.ctype= [67,111,110,116,101,110,116,45,84,121,112,101] from rfl]at e1
 refine⟨decide (Tg.Hd.getP Tg.Mi.ctype l≠ []),?_⟩
 refine LC_pure rfl Tryz.func69 rfl (Nat.le_of_ble_eq_true rfl) (by decide) (by kernel_rfl) rfl ?_
 unfold Tg.Mi.rawP
 have ho:=o1.row
 have hle:=o1.le
 have hold:=o1.old
 generalize Tg.Hd.getP Tg.Mi.ctype l=xs at*
 have hlen:=fun H':LH=>SOwn.len ho (H':=H')
 by_cases hx:xs= []
 ·subst hx
  simp at hlen
  simp [e1,hlen]
  exact⟨hle,hold⟩
 ·have hp:=List.length_pos_iff.2 hx
  have q:=eq_false (show¬(xs.length:Int)=0 by omega)
  obtain⟨k,o,g1,g2,g3⟩:=SOwn.at ho (i:=xs.length-1) (by omega)
  have g4:=g3 H1 rfl
  have hw:IntKind.i64.wrap ((xs.length:Int)-1)=((xs.length-1:Nat):Int):=by rw [wrapI (by omega) (by omega)];omega
  have hla:xs.getLast?.getD []=xs[xs.length-1]'(by omega):=by
   rw [List.getLast?_eq_getElem?,List.getElem?_eq_getElem (by omega)];rfl
  simp [e1,hlen,hx,q,hw,g1,g4,hla]
  exact⟨hle,hold⟩
theorem nvalues_ex (hr:HRow H v l) (hs:Tg.Mi.SmH l) (hN:N≤H.n):Gives Tryz.prog EJ 111 [v] H fun H' r=>RowG elS 9 N H' r (Tg.Mi.valuesP (Tg.Hd.getP Tg.Mi.xopt l)):=by
 refine gives_of ?_ (fun v H' hf h=>h.flat hf)
 refine LC_runs (P:=Tryz.prog) (E:=EJ) (f:=111) rfl Tryz.func111 rfl (Nat.le_of_ble_eq_true rfl) (by decide) (by kernel_rfl) ?_
 have hjl:=Tg.Mi.joinS (name:=Tg.Mi.xopt) hs
 have e1:=comb_cl (name:=Tg.Mi.xopt) hr (by have:=hs.1;omega) (fun h hh=>by have:=(hs.2 h hh).1;omega) (by omega)
 rw [show Tg.Mi.xopt= [88,45,67,111,110,116,101,110,116,45,84,121,112,101,45,79,112,116,105,111,110,115] from rfl]at e1 hjl⊢
 unfold Tg.Mi.valuesP
 generalize Tg.Hd.getP _ l=xs at*
 obtain⟨v2,H2,e2,le2,r2⟩:=split_ex (s:=Tg.Hd.joinC xs) hN (by omega)
 by_cases hx:xs= []
 ·subst hx
  simp [e1]
  exact RowG.nil
 ·rw [if_neg hx]
  simp [e1,hx,e2]
  exact⟨le2,r2⟩
theorem nis_k (hr:HRow H v l) (hs:Tg.Mi.SmH l):LC Tryz.prog EJ 70 [v] H=some (.bool (Tg.Mi.noP l),H):=by
 refine LC_pure rfl Tryz.func70 rfl (Nat.le_of_ble_eq_true rfl) (by decide) (by kernel_rfl) rfl ?_
 obtain⟨v1,H1,e1,le1,r1⟩:=nvalues_ex (N:=H.n) hr hs (Nat.le_refl _)
 have hb:=(Tg.Mi.valuesP_bd (B:=1000) (xs:=Tg.Hd.getP Tg.Mi.xopt l) (Tg.Mi.joinS hs)).2
 unfold Tg.Mi.noP
 generalize Tg.Mi.valuesP (Tg.Hd.getP Tg.Mi.xopt l)=ys at*
 have hlen:=fun H':LH=>r1.len (P:=Tryz.prog) (t:=60) (H':=H') Tryz.underlying60
 cases ys with
 |nil=>
  simp at hlen
  simp [e1,hlen]
  exact le1
 |cons a r=>
  have hal:=hb a (by simp)
  obtain⟨k,o,g1,g2,g3⟩:=str_at r1 (i:=0) (by simp)
  have g4:=g3 H1 rfl
  have e3:=fun H:LH=>csame_cl (H:=H) (s:=a) (t:= [110,111,115,110,105,102,102]) (by omega)
  have q:=eq_true (show(0:Int)<(r.length:Int)+1 by omega)
  simp at hlen g4 g1
  rw [show Tg.Mi.word= [110,111,115,110,105,102,102] from rfl]
  simp [e1,hlen,q,g1,g4,e3]
  exact le1
end
end Go.Proofs.YtjplaockjmhnjaaGreatDoor.Mi
set_option linter.unusedSimpArgs false
set_option linter.unusedVariables false
set_option maxRecDepth 100000
namespace Go.Proofs.YtjplaockjmhnjaaGreatDoor.Mi
open Go.Lg Go.Tg
section
variable {H H':LH} {N M:Nat} {v w:Value} {l:List Tg.Hd.Hdr} {m:Tg.Mi.Mim} {xs:List (List UInt8)}
theorem lfill_said {a b:List UInt8} {h n g:Bool} (hc:cellB v=true):lfill Tryz.prog 43 [str [],str [],.slice none 0 0,.bool false,.bool false,.bool false] [(0,mv a b v),(1,.bool h),(2,.bool n),(3,.bool g)]=some [str a,str b,v,.bool h,.bool n,.bool g]:=by
 rw [lfill_agg (o:=0) (n:=3) (g:=true) (by simp) rfl (by simp)]
 show lfill _ _ [str a,str b,v,.bool false,.bool false,.bool false] _=_
 rw [lfill_cell (o:=3) (n:=1) (g:=false) (by simp) rfl (by simp) (by simp),lfill_cell (o:=4) (n:=1) (g:=false) (by simp) rfl (by simp) (by simp),lfill_cell (o:=5) (n:=1) (g:=false) (by simp) rfl (by simp) (by simp)]
 simp
def SaidR (N:Nat) (l:List Tg.Hd.Hdr) (H:LH) (r:Value):Prop:= ∃w,r=svp ((Tg.Mi.typeP l).getD Tg.Mi.noM) w (Tg.Mi.typeP l).isSome (Tg.Mi.noP l) (Tg.Sn.bug (Tg.Mi.rawP l))∧RowG elP 87 N H w ((Tg.Mi.typeP l).getD Tg.Mi.noM).ps
theorem SaidR.flat (h:SaidR N l H' v) (hf:flatB v=true):SaidR N l H v:=by
 obtain⟨w,rfl,h⟩:=h
 refine⟨w,rfl,h.flat ?_⟩
 have hc:=h.cell
 simp only [flatB,flat1B,List.all_cons,Bool.and_eq_true]at hf
 have h1:=hf.2.2.1
 cases w<;>first|exact h1|(simp [cellB]at hc)
theorem said_ex (hr:HRow H v l) (hs:Tg.Mi.SmH l) (hN:N≤H.n):Gives Tryz.prog EJ 33 [v] H (SaidR N l):=by
 refine gives_of ?_ (fun v H' hf h=>h.flat hf)
 refine LC_runs (P:=Tryz.prog) (E:=EJ) (f:=33) rfl Tryz.func33 rfl (Nat.le_of_ble_eq_true rfl) (by decide) (by kernel_rfl) ?_
 obtain⟨H0,hH0⟩: ∃H0,H0=H.new ⟨[str [],str [],.slice none 0 0,.bool false,.bool false,.bool false],43,true⟩:=⟨_,rfl⟩
 have le0:H.le H0:=by rw [hH0];exact le_refl.new
 have n0:H0.n=H.n+1:=by rw [hH0];rfl
 have a0:H0.get H.n=some ⟨[str [],str [],.slice none 0 0,.bool false,.bool false,.bool false],43,true⟩:=by rw [hH0,get_new]
 obtain⟨r1,H1,e1,le1,w1,rfl,rw1⟩:=nextract_ex (N:=N) (hr.keep le0.1 le0.2) hs (by omega)
 have hc1:=rw1.cell
 have n1:=le1.1
 have a1:=(le1.2 H.n (by omega)).trans a0
 unfold SaidR
 generalize ((Tg.Mi.typeP l).getD Tg.Mi.noM)=m at*
 generalize (Tg.Mi.typeP l).isSome=has at*
 obtain⟨H2,hH2⟩: ∃H2,H2=H1.new ⟨[str m.t,str m.s,w1],41,true⟩:=⟨_,rfl⟩
 have le2:H1.le H2:=by rw [hH2];exact le_refl.new
 have g2:H2.get H1.n=some ⟨[str m.t,str m.s,w1],41,true⟩:=by rw [hH2,get_new]
 have a2:=(le2.2 H.n (by omega)).trans a1
 have hle:=le0.trans (le1.trans le2)
 have hr2:=hr.keep hle.1 hle.2
 obtain⟨rb,e2⟩:=nraw_k hr2 hs
 have e3:=nis_k hr2.ro hs
 have e4:=fun H:LH=>bug_cl (H:=H) (s:=Tg.Mi.rawP l)
 have m1:(H.n=H1.n)=False:=eq_false (by omega)
 simp [←hH0,e1,←hH2,hc1,e2,e3,e4,g2,a2,lfill_said,m1]
 exact⟨hle,(rw1.le le2).keep1 (Nat.le_refl _) a2 (by show 43≠87;decide) (fun h=>h) hN (fun k _ hne=>get_set_ne hne)⟩
end
end Go.Proofs.YtjplaockjmhnjaaGreatDoor.Mi
set_option linter.unusedSimpArgs false
set_option linter.unusedVariables false
set_option maxRecDepth 100000
namespace Tg.Mi
def ctypeL:List UInt8:= [99,111,110,116,101,110,116,45,116,121,112,101]
def xoptL:List UInt8:= [120,45,99,111,110,116,101,110,116,45,116,121,112,101,45,111,112,116,105,111,110,115]
theorem getP_low {a b:List UInt8} (h:Tg.Lo.lower a=Tg.Lo.lower b) (l:List Tg.Hd.Hdr):Tg.Hd.getP a l=Tg.Hd.getP b l:=by
 unfold Tg.Hd.getP Tg.Hd.isP
 rw [h]
theorem getC (l:List Tg.Hd.Hdr):Tg.Hd.getP ctypeL l=Tg.Hd.getP ctype l:=getP_low (by decide) l
theorem getX (l:List Tg.Hd.Hdr):Tg.Hd.getP xoptL l=Tg.Hd.getP xopt l:=getP_low (by decide) l
theorem low_word:Tg.Lo.lower word=word:=by decide
end Tg.Mi
namespace Go.Proofs.YtjplaockjmhnjaaGreatDoor.Mi
open Go.Lg Go.Tg
section
variable {H H':LH} {N M:Nat} {s t u name set:List UInt8} {v w:Value} {ps:List Tg.Mi.Par} {xs:List (List UInt8)} {m:Tg.Mi.Mim} {l:List Tg.Hd.Hdr}
theorem rextract_ex (h:SOwn M H v xs) (hn:xs.length≤1000) (hm: ∀x∈xs,x.length≤1000) (hl:(Tg.Hd.joinC xs).length≤5000) (hN:N≤H.n):Gives Tryz.prog EJ 38 [v] H (MimR 4 N (Tg.Mi.extractP xs)):=by
 refine gives_of ?_ (fun v H' hf h=>h.flat hf)
 refine LC_runs (P:=Tryz.prog) (E:=EJ) (f:=38) rfl Tryz.func38 rfl (Nat.le_of_ble_eq_true rfl) (by decide) (by kernel_rfl) ?_
 unfold Tg.Mi.extractP
 obtain⟨H0,hH0⟩: ∃H0,H0=H.new ⟨[str [],str [],.slice none 0 0],41,true⟩:=⟨_,rfl⟩
 have le0:H.le H0:=by rw [hH0];exact le_refl.new
 have n0:H0.n=H.n+1:=by rw [hH0];rfl
 have a0:H0.get H.n=some ⟨[str [],str [],.slice none 0 0],41,true⟩:=by rw [hH0,get_new]
 have h0:SOwn M H0 v xs:=RowN.keep h le0.1 (fun k _ _ hk=>le0.2 k hk)
 obtain⟨v1,H1,e1,le1,r1⟩:=rall_ex h0 hn hm hl (show N≤H0.n by omega)
 have hbd: ∀m∈Tg.Mi.allP (Tg.Mi.valuesP xs),Tg.Mi.BdM 5000 m:=Tg.Mi.allP_bd (Tg.Mi.valuesP_bd hl).2 trimH_len
 have hcl:(Tg.Mi.allP (Tg.Mi.valuesP xs)).length≤5001:=Nat.le_trans (List.length_filterMap_le _ _) (Tg.Mi.valuesP_bd hl).1
 generalize Tg.Mi.allP (Tg.Mi.valuesP xs)=ms at*
 have n1:=le1.1
 obtain⟨p,hp⟩: ∃p,p=H1.n:=⟨_,rfl⟩
 have hpn:H.n+1≤p:=by omega
 obtain⟨H2,hH2⟩: ∃H2,H2=H1.new ⟨[str [],str [],.slice none 0 0],41,true⟩:=⟨_,rfl⟩
 have le2:H1.le H2:=by rw [hH2];exact le_refl.new
 have n2:H2.n=p+1:=by rw [hH2,hp];rfl
 have a2:=((le1.trans le2).2 H.n (by omega)).trans a0
 have b2:H2.get p=some ⟨[str [],str [],.slice none 0 0],41,true⟩:=by rw [hH2,hp];exact get_new
 have hle2:=le0.trans (le1.trans le2)
 have hrow: ∀k,¬offRow v1 k→k<p:=fun k hno=>by
  rcases Nat.lt_or_ge k p with h|h
  ·exact h
  ·exact absurd (r1.off_ge (by omega)) hno
 obtain⟨T,hT⟩: ∃T,T=Tg.Mi.foldM ms (⟨[],[],[]⟩,[]):=⟨_,rfl⟩
 rw [←hT]
 have d1:(H.n=p)=False:=eq_false (by omega)
 have d2:(p=H.n)=False:=eq_false (by omega)
 have hss:H2.set p ⟨[str [],str [],.slice none 0 0],41,true⟩=H2:=by rw [hH2,hp,new_set]
 simp [←hH0,e1,←hp,←hH2,b2,hss]
 refine loop_ind (fun(i:Nat) fr' H'=> ∃(m:Tg.Mi.Mim) (set:List UInt8) (vp:Value),fr' 2=ptr H.n 0∧fr' 4=ptr p 0∧fr' 5=str set∧fr' 6=v1∧fr' 7=.int .i64 i∧i≤ms.length∧H'.get H.n=some ⟨[str [],str [],.slice none 0 0],41,true⟩∧H'.get p=some ⟨[str m.t,str m.s,vp],41,true⟩∧RowG elP 87 N H' vp m.ps∧OwnG elM 41 N (H.n+1) H' v1 ms∧p+1≤H'.n∧(∀k,k<H.n→H'.get k=H.get k)∧Tg.Mi.BdM 5001 m∧set.length≤5000∧T=Tg.Mi.foldM (ms.drop i) (m,set)) (fun i=>ms.length-i) 0 ⟨⟨[],[],[]⟩,[],.slice none 0 0,by simp,by simp,by simp,by simp,by simp,Nat.zero_le _,a2,b2,RowG.nil,(r1.weak (by omega)).le le2,by omega,fun k hk=>hle2.2 k hk,⟨by decide,by decide,by decide,by simp⟩,by simp,hT⟩ ?_
 rintro i fr' H2 ⟨m,set,vp,f2,f4,f5,f6,f7,hi,ga,gb,hrp,how,hn2,hold,hbm,hsl,hq⟩ ih
 have hcp:=hrp.cell
 have hlen:=fun H':LH=>how.row.len (P:=Tryz.prog) (t:=81) (H':=H') Tryz.underlying81
 by_cases hlt:i<ms.length
 ·have q:=eq_true (show(i:Int)<(ms.length:Int) by omega)
  have hw:IntKind.i64.wrap ((i:Int)+1)=((i+1:Nat):Int):=by rw [wrapI (by omega) (by omega)];omega
  obtain⟨k,o,wp,g1,g2,g3,g4⟩:=mime_at how.row hlt
  have g4:=g4 H2 rfl
  rw [List.drop_eq_getElem_cons hlt]at hq
  have hbn:=hbd ms[i] (List.getElem_mem hlt)
  generalize ms[i]=nx at*
  unfold Tg.Mi.foldM at hq
  obtain⟨bt,bs,bp,bq⟩:=hbn
  have hcw:=g3.cell
  obtain⟨r4,H4,e4,le4,x4,rfl,r4⟩:=rstep_ex (m:=nx) (t:=m.t) (u:=m.s) (w:=vp) (set:=set) (N:=N) (H:=H2) g3 (by omega) (by omega) (fun p hp=>by have:=bq p hp;omega) (by omega) (by omega) (by have:=hbm.1;omega) (by have:=hbm.2.1;omega) (by omega) hcp
  have hsb:=Tg.Mi.stepP_bd (t:=m.t) (s:=m.s) (set:=set) (n:=nx) (B:=5000) ⟨bt,bs,bp,bq⟩ hsl (by decide)
  generalize Tg.Mi.stepP m.t m.s set nx=X at*
  have hcx:=r4.cell
  have gb4:=(le4.2 p (by omega)).trans gb
  have ga4:=(le4.2 H.n (by omega)).trans ga
  have n4:=le4.1
  have how4:=how.le le4
  have hfin:=fun fr2 (g2:fr2 2=ptr H.n 0) (g4':fr2 4=ptr p 0) (g5:fr2 5=str X.2) (g6:fr2 6=v1) (g7:fr2 7=.int .i64 ((i+1:Nat):Int))=>ih (i+1) fr2 (H4.set p ⟨[str X.1.t,str X.1.s,x4],41,true⟩) (by omega) ⟨X.1,X.2,x4,g2,g4',g5,g6,g7,by omega,by rw [get_set_ne (by omega)];exact ga4,get_set,
   r4.keep1 (Nat.le_refl _) gb4 (by show 41≠87;decide) (fun h=>h) (by omega) (fun k _ hne=>get_set_ne hne),
   how4.keep ⟨Nat.le_refl _,fun k b hk hb hor=>by
    by_cases hkc:k=p
    ·subst hkc
     rw [gb4]at hb
     injection hb with hb
     subst hb
     rcases hor with h4|h4
     ·omega
     ·exact absurd h4 (by show¬41=87;decide)
    ·rw [get_set_ne hkc];exact hb⟩ (fun k hk hno _=>get_set_ne (by have:=hrow k hno;omega)),
   by rw [n_set];omega,fun k hk=>by rw [get_set_ne (by omega),le4.2 k (by omega)];exact hold k hk,hsb.1,hsb.2,hq⟩
  clear ih hq
  simp [f2,f4,f5,f6,f7,hlen,q,hlt,g1,g4,hcw,gb,e4,gb4,hcx]
  refine hfin _ ?_ ?_ ?_ ?_ ?_
  all_goals simp [f2,f4,f6,hw]
 ·have q:=eq_false (show¬(i:Int)<(ms.length:Int) by omega)
  rw [List.drop_of_length_le (by omega)]at hq
  have hq:T=(m,set):=hq
  subst hq
  have hle2:H.le H2:=⟨by omega,hold⟩
  clear ih
  by_cases hm:ms= []
  ·subst hm
   obtain rfl:i=0:=by simpa using hi
   simp at hlen f7
   simp [f2,f4,f5,f6,f7,hlen,ga,MimR]
   exact hle2
  ·have qm:=eq_false (show¬(ms.length:Int)=0 by intro e;exact hm (List.eq_nil_of_length_eq_zero (by omega)))
   rw [if_neg hm]
   simp [f2,f4,f5,f6,f7,hlen,q,hlt,ga,gb,hm,qm,hcp,d1,d2]
   refine⟨hle2,vp,rfl,hrp.keep1 (Nat.le_refl _) ga (by show 41≠87;decide) (fun h=>h) hN (fun k _ hne=>get_set_ne hne)⟩
theorem rraw_k (hr:HRow H v l) (hs:Tg.Mi.SmH l): ∃b,LC Tryz.prog EJ 40 [v] H=some (.tuple #[str (Tg.Mi.rawP l),.bool b],H):=by
 obtain⟨v1,H1,e1,o1⟩:=rget_ex (name:=Tg.Mi.ctypeL) hr (by have:=hs.1;omega) (fun h hh=>by have:=(hs.2 h hh).1;omega) (by decide)
 rw [Tg.Mi.getC]at o1
 have hgl:=Tg.Hd.getP_len Tg.Mi.ctype l
 have hl8:=hs.1
 rw [show Tg.Mi.ctypeL= [99,111,110,116,101,110,116,45,116,121,112,101] from rfl]at e1
 refine⟨decide (Tg.Hd.getP Tg.Mi.ctype l≠ []),?_⟩
 refine LC_pure rfl Tryz.func40 rfl (Nat.le_of_ble_eq_true rfl) (by decide) (by kernel_rfl) rfl ?_
 unfold Tg.Mi.rawP
 have ho:=o1.row
 have hle:=o1.le
 have hold:=o1.old
 generalize Tg.Hd.getP Tg.Mi.ctype l=xs at*
 have hlen:=fun H':LH=>SOwn.len ho (H':=H')
 by_cases hx:xs= []
 ·subst hx
  simp at hlen
  simp [e1,hlen]
  exact⟨hle,hold⟩
 ·have hp:=List.length_pos_iff.2 hx
  have q:=eq_false (show¬(xs.length:Int)=0 by omega)
  obtain⟨k,o,g1,g2,g3⟩:=SOwn.at ho (i:=xs.length-1) (by omega)
  have g4:=g3 H1 rfl
  have hw:IntKind.i64.wrap ((xs.length:Int)-1)=((xs.length-1:Nat):Int):=by rw [wrapI (by omega) (by omega)];omega
  have hla:xs.getLast?.getD []=xs[xs.length-1]'(by omega):=by
   rw [List.getLast?_eq_getElem?,List.getElem?_eq_getElem (by omega)];rfl
  simp [e1,hlen,hx,q,hw,g1,g4,hla]
  exact⟨hle,hold⟩
theorem rvals_ex (hr:HRow H v l) (hs:Tg.Mi.SmH l) (hN:N≤H.n):Gives Tryz.prog EJ 78 [v] H fun H' r=>RowG elS 9 N H' r (Tg.Mi.valuesP (Tg.Hd.getP Tg.Mi.xopt l)):=by
 refine gives_of ?_ (fun v H' hf h=>h.flat hf)
 refine LC_runs (P:=Tryz.prog) (E:=EJ) (f:=78) rfl Tryz.func78 rfl (Nat.le_of_ble_eq_true rfl) (by decide) (by kernel_rfl) ?_
 have hjl:=Tg.Mi.joinS (name:=Tg.Mi.xopt) hs
 obtain⟨v1,H1,e1,o1⟩:=rget_ex (name:=Tg.Mi.xoptL) hr (by have:=hs.1;omega) (fun h hh=>by have:=(hs.2 h hh).1;omega) (by decide)
 rw [Tg.Mi.getX]at o1
 rw [show Tg.Mi.xoptL= [120,45,99,111,110,116,101,110,116,45,116,121,112,101,45,111,112,116,105,111,110,115] from rfl]at e1
 have hgl:=Tg.Hd.getP_len Tg.Mi.xopt l
 have hl8:=hs.1
 have hmem: ∀x∈Tg.Hd.getP Tg.Mi.xopt l,x.length≤1000:=fun x hx=>by
  obtain⟨a,ha,rfl⟩:=Tg.Mi.getP_mem hx
  have:=(hs.2 a ha).2;omega
 unfold Tg.Mi.valuesP
 have ho:=o1.row
 have hle:H.le H1:=⟨o1.le,o1.old⟩
 generalize Tg.Hd.getP Tg.Mi.xopt l=xs at*
 have hlen:=fun H':LH=>SOwn.len ho (H':=H')
 by_cases hx:xs= []
 ·subst hx
  simp at hlen
  simp [e1,hlen]
  exact⟨hle,RowG.nil⟩
 ·rw [if_neg hx]
  have q:=eq_false (show¬(xs.length:Int)=0 by intro e;exact hx (List.eq_nil_of_length_eq_zero (by omega)))
  have hj:=rjoin_cl ho (by omega) hmem
  obtain⟨v2,H2,e2,le2,r2⟩:=rsplit_ex (s:=Tg.Hd.joinC xs) (show N≤H1.n by have:=hle.1;omega) (by omega)
  simp [e1,hlen,hx,q,hj,e2]
  exact⟨hle.trans le2,r2⟩
theorem ris_k (hr:HRow H v l) (hs:Tg.Mi.SmH l):LC Tryz.prog EJ 41 [v] H=some (.bool (Tg.Mi.noP l),H):=by
 refine LC_pure rfl Tryz.func41 rfl (Nat.le_of_ble_eq_true rfl) (by decide) (by kernel_rfl) rfl ?_
 obtain⟨v1,H1,e1,le1,r1⟩:=rvals_ex (N:=H.n) hr hs (Nat.le_refl _)
 have hb:=(Tg.Mi.valuesP_bd (B:=1000) (xs:=Tg.Hd.getP Tg.Mi.xopt l) (Tg.Mi.joinS hs)).2
 unfold Tg.Mi.noP
 rw [Tg.Mi.low_word]
 generalize Tg.Mi.valuesP (Tg.Hd.getP Tg.Mi.xopt l)=ys at*
 have hlen:=fun H':LH=>r1.len (P:=Tryz.prog) (t:=60) (H':=H') Tryz.underlying60
 cases ys with
 |nil=>
  simp at hlen
  simp [e1,hlen]
  exact le1
 |cons a r=>
  have hal:=hb a (by simp)
  obtain⟨k,o,g1,g2,g3⟩:=str_at r1 (i:=0) (by simp)
  have g4:=g3 H1 rfl
  have e3:=fun H:LH=>hlower_cl (H:=H) (s:=a) (by omega)
  have q:=eq_true (show(0:Int)<(r.length:Int)+1 by omega)
  simp at hlen g4 g1
  rw [show Tg.Mi.word= [110,111,115,110,105,102,102] from rfl]
  simp [e1,hlen,q,g1,g4,e3]
  exact le1
theorem rsaid_ex (hr:HRow H v l) (hs:Tg.Mi.SmH l) (hN:N≤H.n):Gives Tryz.prog EJ 16 [v] H (SaidR N l):=by
 refine gives_of ?_ (fun v H' hf h=>h.flat hf)
 refine LC_runs (P:=Tryz.prog) (E:=EJ) (f:=16) rfl Tryz.func16 rfl (Nat.le_of_ble_eq_true rfl) (by decide) (by kernel_rfl) ?_
 obtain⟨H0,hH0⟩: ∃H0,H0=H.new ⟨[str [],str [],.slice none 0 0,.bool false,.bool false,.bool false],43,true⟩:=⟨_,rfl⟩
 have le0:H.le H0:=by rw [hH0];exact le_refl.new
 have n0:H0.n=H.n+1:=by rw [hH0];rfl
 have a0:H0.get H.n=some ⟨[str [],str [],.slice none 0 0,.bool false,.bool false,.bool false],43,true⟩:=by rw [hH0,get_new]
 have hgl:=Tg.Hd.getP_len Tg.Mi.ctype l
 have hl8:=hs.1
 have hjl:=Tg.Mi.joinS (name:=Tg.Mi.ctype) hs
 have hmem: ∀x∈Tg.Hd.getP Tg.Mi.ctype l,x.length≤1000:=fun x hx=>by
  obtain⟨a,ha,rfl⟩:=Tg.Mi.getP_mem hx
  have:=(hs.2 a ha).2;omega
 obtain⟨v1,H1,e1,o1⟩:=rget_ex (name:=Tg.Mi.ctypeL) (hr.keep le0.1 le0.2) (by omega) (fun h hh=>by have:=(hs.2 h hh).1;omega) (by decide)
 rw [Tg.Mi.getC]at o1
 rw [show Tg.Mi.ctypeL= [99,111,110,116,101,110,116,45,116,121,112,101] from rfl]at e1
 have le1:H0.le H1:=⟨o1.le,o1.old⟩
 obtain⟨r1,H2,e2,le2,R⟩:=rextract_ex (N:=N) o1.row (by omega) hmem (by omega) (by have:=le1.1;omega)
 change MimR 4 N (Tg.Mi.typeP l) H2 r1 at R
 have n2:=(le1.trans le2).1
 have a2:=((le1.trans le2).2 H.n (by omega)).trans a0
 have hle2:=le0.trans (le1.trans le2)
 obtain⟨rb,e3⟩:=rraw_k (hr.keep hle2.1 hle2.2) hs
 have e5:=fun H:LH=>rbug_cl (H:=H) (s:=Tg.Mi.rawP l)
 unfold SaidR
 have m1:(H.n=H2.n)=False:=eq_false (by omega)
 cases hx:Tg.Mi.typeP l with
 |none=>
  rw [hx]at R
  have R:r1=.tuple #[mv [] [] (.slice none 0 0),.int .i64 4]:=R
  subst R
  obtain⟨H3,hH3⟩: ∃H3,H3=H2.new ⟨[str [],str [],.slice none 0 0],41,true⟩:=⟨_,rfl⟩
  have le3:H2.le H3:=by rw [hH3];exact le_refl.new
  have g3:H3.get H2.n=some ⟨[str [],str [],.slice none 0 0],41,true⟩:=by rw [hH3,get_new]
  have hss:H3.set H2.n ⟨[str [],str [],.slice none 0 0],41,true⟩=H3:=by rw [hH3,new_set]
  have a3:=(le3.2 H.n (by omega)).trans a2
  have hle3:=hle2.trans le3
  obtain⟨rb,e3⟩:=rraw_k (hr.keep hle3.1 hle3.2) hs
  have e4:=ris_k (hr.keep hle3.1 hle3.2).ro hs
  simp [←hH0,e1,e2,←hH3,g3,hss,e3,e4,e5,a3,lfill_said,m1,Tg.Mi.noM]
  exact⟨hle3,RowG.nil⟩
 |some m=>
  rw [hx]at R
  obtain⟨w1,rfl,rw1⟩:=R
  have hc1:=rw1.cell
  obtain⟨H3,hH3⟩: ∃H3,H3=H2.new ⟨[str m.t,str m.s,w1],41,true⟩:=⟨_,rfl⟩
  have le3:H2.le H3:=by rw [hH3];exact le_refl.new
  have g3:H3.get H2.n=some ⟨[str m.t,str m.s,w1],41,true⟩:=by rw [hH3,get_new]
  have a3:=(le3.2 H.n (by omega)).trans a2
  have hle3:=hle2.trans le3
  obtain⟨rb,e3⟩:=rraw_k (hr.keep hle3.1 hle3.2) hs
  have e4:=ris_k (hr.keep hle3.1 hle3.2).ro hs
  simp [←hH0,e1,e2,hc1,←hH3,g3,e3,e4,e5,a3,lfill_said,m1,Tg.Mi.noM]
  exact⟨hle3,(rw1.le le3).keep1 (Nat.le_refl _) a3 (by show 43≠87;decide) (fun h=>h) hN (fun k _ hne=>get_set_ne hne)⟩
end
end Go.Proofs.YtjplaockjmhnjaaGreatDoor.Mi
set_option linter.unusedSimpArgs false
set_option linter.unusedVariables false
set_option maxRecDepth 100000
namespace Tg.Ob
def wMedia:List UInt8:= [109,101,100,105,97]
def wNoMedia:List UInt8:= [110,111,32,109,101,100,105,97]
def wNoPart:List UInt8:= [110,111,32,112,97,114,116]
def wImage:List UInt8:= [105,109,97,103,101]
def wNosniff:List UInt8:= [110,111,115,110,105,102,102]
def wStatus:List UInt8:= [115,116,97,116,117,115]
def wUntyped:List UInt8:= [117,110,116,121,112,101,100]
def wMislab:List UInt8:= [109,105,115,108,97,98,101,108,108,101,100]
def labP (m:Tg.Mi.Mim):Bool:=decide (m.t=wImage)||Tg.Sn.isMedia m.t m.s
def judgeP (me st:Int) (l:List Tg.Hd.Hdr) (s:List UInt8):Int×List UInt8:=
 if(Tg.Sn.kind s).2=true then(1,wMedia)
 else if me≠0 then(2,wNoMedia)
 else if st=206 then(2,wNoPart)
 else if(Tg.Sn.kind s).1≠ []then(1,wImage)
 else if Tg.Mi.noP l=true then(2,wNosniff)
 else if¬(200≤st∧st≤299)then(2,wStatus)
 else if(Tg.Mi.typeP l).isSome=false then(1,wUntyped)
 else if labP ((Tg.Mi.typeP l).getD Tg.Mi.noM)=true then(2,wMislab)
 else(0,[])
end Tg.Ob
namespace Go.Proofs.YtjplaockjmhnjaaGreatDoor.Sn
open Go.Lg Go.Tg
section
variable {H H':LH} {N:Nat} {s t u:List UInt8} {v w:Value} {l:List Tg.Hd.Hdr} {a1 a2:Bool} {me st:Int}
theorem tab_bs (h:Tab H) (b:Bs H H'):Tab H':=⟨by rw [b.2];exact h.1,by rw [b.1];exact h.2⟩
theorem nsaid_ex (hr:HRow H v l) (hs:Tg.Mi.SmH l): ∃r H',LC Tryz.prog EJ 33 [v] H=some (r,H')∧H.le H'∧Mi.SaidR H.n l H' r∧Bs H H':=by
 obtain⟨r,H',e,h1,h2⟩:=Mi.said_ex (N:=H.n) hr hs (Nat.le_refl _)
 exact⟨r,H',up rfl e,h1,h2,ext_bs e⟩
theorem rsaid_exS (hr:HRow H v l) (hs:Tg.Mi.SmH l): ∃r H',LC Tryz.prog EJ 16 [v] H=some (r,H')∧H.le H'∧Mi.SaidR H.n l H' r∧Bs H H':=by
 obtain⟨r,H',e,h1,h2⟩:=Mi.rsaid_ex (N:=H.n) hr hs (Nat.le_refl _)
 exact⟨r,H',up rfl e,h1,h2,ext_bs e⟩
end
end Go.Proofs.YtjplaockjmhnjaaGreatDoor.Sn
set_option linter.unusedSimpArgs false
set_option linter.unusedVariables false
set_option maxRecDepth 100000
namespace Tg.Mi
theorem foldM_bd {B:Nat} (hB:charset.length≤B): ∀(l:List Mim) (x:Mim×List UInt8),(∀m∈l,BdM B m)→BdM (B+1) x.1→x.2.length≤B→BdM (B+1) (foldM l x).1
 | [],x,_,h,_=>h
 |n::l,x,hl,h,h2=>by
  unfold foldM
  have hs:=stepP_bd (t:=x.1.t) (s:=x.1.s) (set:=x.2) (n:=n) (hl n (by simp)) h2 hB
  exact foldM_bd hB l _ (fun m hm=>hl m (by simp [hm])) hs.1 hs.2
theorem typeP_bd {l:List Tg.Hd.Hdr} (h:SmH l) (ht: ∀s:List UInt8,(Tg.Hd.trim s).length≤s.length):BdM 1001 ((typeP l).getD noM):=by
 unfold typeP extractP
 split
 ·exact⟨by decide,by decide,by decide,by simp [noM]⟩
 ·exact foldM_bd (B:=1000) (by decide) _ _ (allP_bd (valuesP_bd (joinS h)).2 ht) ⟨by decide,by decide,by decide,by simp⟩ (by simp)
end Tg.Mi
namespace Tg.Hd
theorem few_few (l:List Hdr) (n:Nat):few (few l n) n=few l n:=by
 unfold few
 rw [←List.map_take,List.take_take,Nat.min_self,List.map_map]
 apply List.map_congr_left
 intro h _
 simp [List.take_take]
theorem few_sm (l:List Hdr):Tg.Mi.SmH (few l 8):=by
 unfold few
 refine⟨by rw [List.length_map,List.length_take];omega,fun h hh=>?_⟩
 obtain⟨a,_,rfl⟩:=List.mem_map.1 hh
 exact⟨by simp only [List.length_take];omega,by simp only [List.length_take];omega⟩
end Tg.Hd
namespace Tg.Ob
structure Jud where
 v:Int
 r:List UInt8
 n:Int
 m:Bool
deriving DecidableEq
def noJ:Jud:=⟨0,[],0,false⟩
def at31 (n:Int):Int:=if n<0 then 0 else if 1445<n then 1445 else n
def ofP (me st:Int) (l:List Tg.Hd.Hdr) (s:List UInt8):Jud:=
 if(judgeP me st l s).1=0 then noJ else⟨(judgeP me st l s).1,(judgeP me st l s).2,at31 s.length,decide ((judgeP me st l s).2=wMedia)⟩
end Tg.Ob
namespace Go.Proofs.YtjplaockjmhnjaaGreatDoor.Sn
open Go.Lg Go.Tg
abbrev jv4 (j:Tg.Ob.Jud):Value:=.agg #[.int .i64 j.v,str j.r,.int .i64 j.n,.bool j.m]
abbrev askv (u:List UInt8) (a1 a2:Bool) (me:Int):Value:=.agg #[str u,.bool a1,.bool a2,.int .i64 me]
abbrev repv (st:Int) (v:Value):Value:=.agg #[.int .i64 st,v]
section
variable {H H':LH} {N:Nat} {s t u:List UInt8} {v w:Value} {l:List Tg.Hd.Hdr} {a1 a2:Bool} {me st:Int}
end
end Go.Proofs.YtjplaockjmhnjaaGreatDoor.Sn
set_option linter.unusedSimpArgs false
set_option linter.unusedVariables false
set_option maxRecDepth 100000
namespace Tg.Ob
def wOpen:List UInt8:= [111,112,101,110]
def wNever:List UInt8:= [110,101,118,101,114]
def wFree:List UInt8:= [102,114,101,101]
def wPartial:List UInt8:= [112,97,114,116,105,97,108]
def headP (a1 a2:Bool) (st:Int) (l:List Tg.Hd.Hdr):Int×List UInt8:=
 if(a1&&a2)=false then(1,wOpen)
 else if((Tg.Mi.typeP l).isSome&&isNever ((Tg.Mi.typeP l).getD Tg.Mi.noM).t ((Tg.Mi.typeP l).getD Tg.Mi.noM).s)=true∧(Tg.Mi.noP l=true∨st=206)then(2,wNever)
 else if guardP (Tg.Mi.typeP l).isSome ((Tg.Mi.typeP l).getD Tg.Mi.noM).t ((Tg.Mi.typeP l).getD Tg.Mi.noM).s=false then(1,wFree)
 else if st=206 then(2,wPartial)
 else if Tg.Mi.noP l=true then(2,wNosniff)
 else(0,[])
end Tg.Ob
namespace Go.Proofs.YtjplaockjmhnjaaGreatDoor.Sn
open Go.Lg Go.Tg
section
variable {H H':LH} {N:Nat} {s t u:List UInt8} {v w:Value} {l:List Tg.Hd.Hdr} {a1 a2:Bool} {me st:Int}
end
end Go.Proofs.YtjplaockjmhnjaaGreatDoor.Sn
set_option linter.unusedSimpArgs false
set_option linter.unusedVariables false
set_option maxRecDepth 100000
namespace Go.Proofs.YtjplaockjmhnjaaGreatDoor.Sn
open Go.Lg Go.Tg
section
variable {H H':LH} {N:Nat} {s t u:List UInt8} {v w:Value} {l:List Tg.Hd.Hdr} {a1 a2:Bool} {me st:Int}
theorem flat_rep (h:flatB (repv st v)=true) (hc:cellB v=true):flatB v=true:=by
 simp only [flatB,flat1B,List.all_cons,Bool.and_eq_true]at h
 have h1:=h.2.1
 cases v<;>first|exact h1|(simp [cellB]at hc)
theorem hrow_slice (h:HRow H v l):cellB v=true:=by
 rcases h with⟨rfl,_⟩|⟨k,o,c,rfl,_⟩<;>simp
theorem few30_ex (hr:HRow H v l) (hl:l.length≤9223372036854775807): ∃v' H',LC Tryz.prog EJ 8 [repv st v] H=some (repv st v',H')∧H.le H'∧HOwn H.n H' v' (Tg.Hd.few l 8)∧Bs H H':=by
 have hc:=hrow_slice hr
 obtain⟨H1,hH1⟩: ∃H1,H1=(H.new ⟨[.int .i64 st,v],26,true⟩).new ⟨[.int .i64 0,.slice none 0 0],26,true⟩:=⟨_,rfl⟩
 have le1:H.le H1:=by rw [hH1];exact le_refl.new.new
 have n1:H1.n=H.n+1+1:=by rw [hH1];rfl
 have a1:H1.get H.n=some ⟨[.int .i64 st,v],26,true⟩:=by rw [hH1,get_new_ne (by simp),get_new]
 have b1:H1.get (H.n+1)=some ⟨[.int .i64 0,.slice none 0 0],26,true⟩:=by rw [hH1];exact get_new
 obtain⟨v2,H2,e2,o2⟩:=few_hl (hr.keep le1.1 le1.2) hl (c:=8) (by decide)
 have bs2:=ext_bs e2
 have e2:LC Tryz.prog EJ 23 [v,.int .i64 8] H1=some (v2,H2):=up rfl e2
 have le2:H1.le H2:=⟨o2.le,o2.old⟩
 have a2:=(le2.2 H.n (by omega)).trans a1
 have b2:=(le2.2 (H.n+1) (by omega)).trans b1
 have n2:=le2.1
 have hr2:=o2.row.row
 have hc2:=hrow_slice hr2
 have d1:(H.n=H.n+1)=False:=eq_false (by omega)
 have d2:(H.n+1=H.n)=False:=eq_false (by omega)
 have hle:=le1.trans le2
 have key: ∃r,LC Tryz.prog EJ 8 [repv st v] H=some (Lg.trunc H r)∧r.1=repv st v2∧r.2=(H2.set H.n ⟨[.int .i64 st,v2],26,true⟩).set (H.n+1) ⟨[.int .i64 st,v2],26,true⟩:=by
  refine LC_runs (P:=Tryz.prog) (E:=EJ) (f:=8) rfl Tryz.func8 rfl (Nat.le_of_ble_eq_true rfl) (by decide) (by kernel_rfl) ?_
  simp [hc,←hH1,a1,e2,a2,b2,hc2,d1,d2]
 obtain⟨⟨r,H3⟩,e3,h1,h2⟩:=key
 simp only at h1 h2
 subst h1 h2
 have hle3:H.le ((H2.set H.n ⟨[.int .i64 st,v2],26,true⟩).set (H.n+1) ⟨[.int .i64 st,v2],26,true⟩):=(hle.set (Nat.le_refl _)).set (by omega)
 have hold:HOwn H.n ((H2.set H.n ⟨[.int .i64 st,v2],26,true⟩).set (H.n+1) ⟨[.int .i64 st,v2],26,true⟩) v2 (Tg.Hd.few l 8):=by
  have h0:=RowN.keep (H':=(H2.set H.n ⟨[.int .i64 st,v2],26,true⟩).set (H.n+1) ⟨[.int .i64 st,v2],26,true⟩) o2.row (Nat.le_refl _) (fun k hk _ _=>by rw [get_set_ne (by omega),get_set_ne (by omega)])
  exact HOwn.weak h0 (by omega)
 rcases trunc_or (repv st v2) H ((H2.set H.n ⟨[.int .i64 st,v2],26,true⟩).set (H.n+1) ⟨[.int .i64 st,v2],26,true⟩)with e4|⟨e4,hf,_⟩
 ·exact⟨v2,_,by rw [e3,e4],hle3,hold,(show Bs H H1 from by rw [hH1];exact⟨by simp,by simp⟩).trans (bs2.trans ⟨by simp,by simp⟩)⟩
 ·refine⟨v2,H,by rw [e3,e4],le_refl,?_,Bs.refl _⟩
  have hf2:=flat_rep hf hc2
  refine⟨hold.1,?_⟩
  rcases hold.2 with h|⟨k,c,rest,rfl,_⟩
  ·exact .inl h
  ·simp [flatB,flat1B,atomB]at hf2
end
end Go.Proofs.YtjplaockjmhnjaaGreatDoor.Sn
set_option linter.unusedSimpArgs false
set_option linter.unusedVariables false
set_option maxRecDepth 100000
namespace Tg.Ob
def wBreaker:List UInt8:= [98,114,101,97,107,101,114]
def wHtml:List UInt8:= [104,116,109,108]
def wXml:List UInt8:= [120,109,108]
def wJson:List UInt8:= [106,115,111,110]
def wUnconf:List UInt8:= [117,110,99,111,110,102,105,114,109,101,100]
def foundP (j:Bool) (has:Bool) (s t u:List UInt8):List UInt8:=
 if breakP u=true then wBreaker
 else if(ofG has (Tg.Sn.isHtml s t) (s++47::t)&&Tg.Un.html u)=true then wHtml
 else if(ofG has (Tg.Sn.isXml s t) (s++47::t)&&Tg.Un.xml u)=true then wXml
 else if(ofG has (isJson s t) (s++47::t)&&j)=true then wJson
 else []
end Tg.Ob
namespace Go.Proofs.YtjplaockjmhnjaaGreatDoor.Sn
open Go.Lg Go.Tg
section
variable {H H':LH} {N:Nat} {s t u:List UInt8} {v w:Value} {l:List Tg.Hd.Hdr} {a1 a2:Bool} {me st:Int} {pa:Option Addr} {pl pc:Nat} {h n g j:Bool}
theorem html_k (hs:s.length≤1000000) (hm:MaxL H):LC Tryz.prog EJ 63 [str s] H=some (.bool (Tg.Un.html s),H):=up rfl (Html_cl hs hm)
theorem xml_k (hs:s.length≤1000000):LC Tryz.prog EJ 65 [str s] H=some (.bool (Tg.Un.xml s),H):=up rfl (Xml_cl hs)
theorem cbreaks_k:LC Tryz.prog EJ 60 [str s] H=some (.bool (Tg.Ob.breakP s),H):=up rfl Mi.breaks_k
theorem max_new {b:LB} (hm:MaxL H):MaxL (H.new b):=hm
theorem isJson_k (hu:u.length≤1000000): ∃j:Bool,LC Tryz.prog EJ 67 [str u] H=some (.bool j,H):=by
 have h:=Mi.isJson_r (H:=H) hu
 refine⟨Classical.choose h,LC_ext (s:=specJson) rfl (dif_pos h)⟩
theorem found_k (hj:Tg.Ob.isJson s t=true∨(h&&decide (s++47::t=Tg.Ob.plainE))=true→LC Tryz.prog EJ 67 [str u] (H.new ⟨[str s,str t,.slice pa pl pc,.bool h,.bool n,.bool g],43,true⟩)=some (.bool j,H.new ⟨[str s,str t,.slice pa pl pc,.bool h,.bool n,.bool g],43,true⟩)) (hl:s.length+t.length≤1000000) (hu:u.length≤1000000) (ht:Tab H) (hm:MaxL H):LC Tryz.prog EJ 32 [svp s t (.slice pa pl pc) h n g,str u] H=some (str (Tg.Ob.foundP j h s t u),H):=by
 refine LC_pure rfl Tryz.func32 rfl (Nat.le_of_ble_eq_true rfl) (by decide) (by kernel_rfl) rfl ?_
 have ht1:=tab_new (b:=⟨[str s,str t,.slice pa pl pc,.bool h,.bool n,.bool g],43,true⟩) ht
 have hm1:=max_new (b:=⟨[str s,str t,.slice pa pl pc,.bool h,.bool n,.bool g],43,true⟩) hm
 have h0:=fun H:LH=>cbreaks_k (H:=H) (s:=u)
 have h1:=cof_k (f:=62) (h:=h) (n:=n) (g:=g) (fun H ht=>ghtml_k (H:=H) (s:=s) (t:=t) (pa:=pa) (pl:=pl) (pc:=pc) ht) hl ht1
 have h2:=cof_k (f:=64) (h:=h) (n:=n) (g:=g) (fun H ht=>gxml_k (H:=H) (s:=s) (t:=t) (pa:=pa) (pl:=pl) (pc:=pc) (by omega) ht) hl ht1
 have h3:=cof_k (f:=66) (h:=h) (n:=n) (g:=g) (fun H ht=>gjson_k (H:=H) (s:=s) (t:=t) (pa:=pa) (pl:=pl) (pc:=pc) (by omega) ht) hl ht1
 have h4:=html_k (s:=u) hu hm1
 have h5:=fun H:LH=>xml_k (H:=H) (s:=u) hu
 have hj2:Tg.Ob.ofG h (Tg.Ob.isJson s t) (s++47::t)=true→LC Tryz.prog EJ 67 [str u] (H.new ⟨[str s,str t,.slice pa pl pc,.bool h,.bool n,.bool g],43,true⟩)=some (.bool j,H.new ⟨[str s,str t,.slice pa pl pc,.bool h,.bool n,.bool g],43,true⟩):=by
  intro h6
  apply hj
  unfold Tg.Ob.ofG at h6
  rw [Bool.or_eq_true]at h6
  rcases h6 with h6|h6
  ·rw [Bool.and_eq_true,Bool.and_eq_true]at h6
   exact .inl h6.1.2
  ·exact .inr h6
 unfold Tg.Ob.foundP
 clear hj
 generalize Tg.Ob.ofG h (Tg.Sn.isHtml s t) (s++47::t)=b1 at*
 generalize Tg.Ob.ofG h (Tg.Sn.isXml s t) (s++47::t)=b2 at*
 generalize Tg.Ob.ofG h (Tg.Ob.isJson s t) (s++47::t)=b3 at*
 generalize Tg.Ob.breakP u=b0 at*
 generalize Tg.Un.html u=c1 at*
 generalize Tg.Un.xml u=c2 at*
 cases b0 with
 |true=>simp [h0,Tg.Ob.wBreaker]
 |false=>
  cases hb1:(b1&&c1)with
  |true=>
   rw [Bool.and_eq_true]at hb1
   obtain⟨rfl,rfl⟩:=hb1
   simp [h0,h1,h4,Tg.Ob.wHtml]
  |false=>
   cases hb2:(b2&&c2)with
   |true=>
    rw [Bool.and_eq_true]at hb2
    obtain⟨rfl,rfl⟩:=hb2
    cases b1<;>cases c1<;>first|(cases hb1;done)|simp [h0,h1,h2,h4,h5,Tg.Ob.wXml]
   |false=>
    cases b3 with
    |false=>
     cases b1<;>cases c1<;>first|(cases hb1;done)|(cases b2<;>cases c2<;>first|(cases hb2;done)|simp [h0,h1,h2,h3,h4,h5])
    |true=>
     have h6:=hj2 rfl
     cases b1<;>cases c1<;>first|(cases hb1;done)|(cases b2<;>cases c2<;>first|(cases hb2;done)|(cases j<;>simp [h0,h1,h2,h3,h4,h5,h6,Tg.Ob.wJson]))
theorem bcutS_k:LC Tryz.prog EJ 31 [str s] H=some (str (s.take 1445),H):=up rfl bcut_cl
def bodyP (j:Bool) (l:List Tg.Hd.Hdr) (s:List UInt8):Int×List UInt8:=
 if Tg.Ob.foundP j (Tg.Mi.typeP l).isSome ((Tg.Mi.typeP l).getD Tg.Mi.noM).t ((Tg.Mi.typeP l).getD Tg.Mi.noM).s (s.take 1445)= []then(1,Tg.Ob.wUnconf)else(2,Tg.Ob.foundP j (Tg.Mi.typeP l).isSome ((Tg.Mi.typeP l).getD Tg.Mi.noM).t ((Tg.Mi.typeP l).getD Tg.Mi.noM).s (s.take 1445))
theorem lfill_j3 {x n:Int} {r:List UInt8} :lfill Tryz.prog 31 [.int .i64 0,str [],.int .i64 0,.bool false] [(0,.int .i64 x),(1,str r),(2,.int .i64 n)]=some [.int .i64 x,str r,.int .i64 n,.bool false]:=by
 rw [lfill_cell (o:=0) (n:=1) (g:=false) (by simp) rfl (by simp) (by simp),lfill_cell (o:=1) (n:=1) (g:=false) (by simp) rfl (by simp) (by simp),lfill_cell (o:=2) (n:=1) (g:=false) (by simp) rfl (by simp) (by simp)]
 simp
theorem body_k (hr:HRow H v l) (hs:Tg.Mi.SmH l) (ht:Tab H) (hm:MaxL H) (hc:cellB v=true): ∃j,LC Tryz.prog EJ 14 [repv st v,str s] H=some (jv (bodyP j l s).1 (bodyP j l s).2 (s.take 1445).length false,H):=by
 obtain⟨H1,hH1⟩: ∃H1,H1=(H.new ⟨[.int .i64 st,v],26,true⟩).new ⟨[.int .i64 0,str [],.int .i64 0,.bool false],31,true⟩:=⟨_,rfl⟩
 have le1:H.le H1:=by rw [hH1];exact le_refl.new.new
 have n1:H1.n=H.n+1+1:=by rw [hH1];rfl
 have k1:H1.get H.n=some ⟨[.int .i64 st,v],26,true⟩:=by rw [hH1,get_new_ne (by simp),get_new]
 have j1:H1.get (H.n+1)=some ⟨[.int .i64 0,str [],.int .i64 0,.bool false],31,true⟩:=by rw [hH1];exact get_new
 obtain⟨r2,H2,e2,le2,⟨w,rfl,hw⟩,bs2⟩:=nsaid_ex (hr.keep le1.1 le1.2) hs
 have hcw:=hw.cell
 obtain⟨pa,pl,pc,hsw⟩:=hw.slice
 have hbd:=Tg.Mi.typeP_bd hs trimH_len
 have k2:=(le2.2 H.n (by omega)).trans k1
 have j2:=(le2.2 (H.n+1) (by omega)).trans j1
 have hle:=le1.trans le2
 have bs02:Bs H H2:=(show Bs H H1 from by rw [hH1];exact⟨by simp,by simp⟩).trans bs2
 have e4:=fun H:LH=>bcutS_k (H:=H) (s:=s)
 obtain⟨j,ej⟩:=isJson_k (H:=H2.new ⟨[str ((Tg.Mi.typeP l).getD Tg.Mi.noM).t,str ((Tg.Mi.typeP l).getD Tg.Mi.noM).s,.slice pa pl pc,.bool (Tg.Mi.typeP l).isSome,.bool (Tg.Mi.noP l),.bool (Tg.Sn.bug (Tg.Mi.rawP l))],43,true⟩) (u:=s.take 1445) (by rw [List.length_take];omega)
 refine⟨j,?_⟩
 refine LC_pure rfl Tryz.func14 rfl (Nat.le_of_ble_eq_true rfl) (by decide) (by kernel_rfl) rfl ?_
 have e5:=found_k (H:=H2) (n:=Tg.Mi.noP l) (g:=Tg.Sn.bug (Tg.Mi.rawP l)) (pa:=pa) (pl:=pl) (pc:=pc) (j:=j) (fun _=>ej) (by have:=hbd.1;have:=hbd.2.1;omega) (by rw [List.length_take];omega) (tab_bs ht bs02) (hm.bs bs02)
 rw [←hsw]at e5
 unfold bodyP
 clear hbd hsw hw ej
 generalize Tg.Ob.foundP j (Tg.Mi.typeP l).isSome ((Tg.Mi.typeP l).getD Tg.Mi.noM).t ((Tg.Mi.typeP l).getD Tg.Mi.noM).s (s.take 1445)=rs at*
 generalize s.take 1445=u at*
 generalize ((Tg.Mi.typeP l).getD Tg.Mi.noM)=m at*
 generalize (Tg.Mi.typeP l).isSome=has at*
 generalize Tg.Mi.noP l=no at*
 generalize Tg.Sn.bug (Tg.Mi.rawP l)=bg at*
 by_cases h0:rs= []
 ·subst h0
  simp [hc,e4,←hH1,k1,j1,e2,k2,j2,e5,lfill_j3,Tg.Ob.wUnconf]
  first|exact hle|exact hle.set (by omega)
 ·have h0f:=eq_false h0
  rw [if_neg h0]
  simp [hc,e4,←hH1,k1,j1,e2,k2,j2,e5,h0f,lfill_j3]
  first|exact hle|exact hle.set (by omega)
end
end Go.Proofs.YtjplaockjmhnjaaGreatDoor.Sn
set_option linter.unusedSimpArgs false
set_option linter.unusedVariables false
set_option maxRecDepth 100000
namespace Tg.Sn
open Go.Lg
abbrev Par:=List UInt8×List UInt8
def pcell (l:List Par):List Go.Value:=l.flatMap fun h=> [str h.1,str h.2]
theorem pcell_cons (h:Par) (l:List Par):pcell (h::l)=str h.1::str h.2::pcell l:=rfl
theorem pcell_len: ∀l:List Par,(pcell l).length=l.length*2
 | []=>rfl
 |h::l=>by rw [pcell_cons];simp [pcell_len l];omega
theorem pcell_at: ∀ {l:List Par} {i:Nat} (h:i<l.length) (r:List Go.Value),((pcell l++r).drop (i*2)).take 2= [str l[i].1,str l[i].2]∧(pcell l++r)[i*2]?=some (str l[i].1)∧(pcell l++r)[i*2+1]?=some (str l[i].2)
 | [],i,h,_=>by simp at h
 |x::l,0,h,r=>by rw [pcell_cons];exact⟨rfl,rfl,rfl⟩
 |x::l,i+1,h,r=>by
  have ih:=pcell_at (l:=l) (i:=i) (by simpa using h) r
  rw [pcell_cons,show(i+1)*2=i*2+2 by omega]
  exact ih
end Tg.Sn
namespace Go.Proofs.YtjplaockjmhnjaaGreatDoor.Sn
open Go.Lg Go.Tg
def QRow (H:LH) (v:Value) (l:List Tg.Sn.Par):Prop:=
 (v=.slice none 0 0∧l= [])∨ ∃(k o c:Nat),v=.slice (some ⟨k,o,none⟩) l.length c∧(l≠ []→ ∃b:LB,H.get k=some b∧k<H.n∧ ∀(i:Nat) (h:i<l.length),o+i*2+2≤b.cells.length∧(b.cells.drop (o+i*2)).take 2= [str l[i].1,str l[i].2]∧b.cells[o+i*2]?=some (str l[i].1)∧b.cells[o+i*2+1]?=some (str l[i].2))
abbrev QOwn (N:Nat) (H:LH) (v:Value) (l:List Tg.Sn.Par):Prop:=RowN N H 87 2 v l.length (Tg.Sn.pcell l)
section
variable {H H':LH} {v:Value} {l:List Tg.Sn.Par} {N:Nat}
theorem QRow.keep (h:QRow H v l) (hn:H.n≤H'.n) (hk: ∀k,k<H.n→H'.get k=H.get k):QRow H' v l:=by
 rcases h with h|⟨k,o,c,h1,h2⟩
 ·exact .inl h
 ·refine .inr ⟨k,o,c,h1,fun hne=>?_⟩
  obtain⟨b,h2,h3,h4⟩:=h2 hne
  exact⟨b,by rw [hk k h3];exact h2,by omega,h4⟩
theorem QRow.len (h:QRow H v l):lbuiltin Tryz.prog .len [39] [v] H'=some (.int .i64 l.length,H'):=by
 rcases h with⟨rfl,rfl⟩|⟨k,o,c,rfl,h2⟩
 ·simp
 ·simp
theorem QRow.at (h:QRow H v l) {i:Nat} (hi:i<l.length): ∃k o,(∀H':LH,lixa Tryz.prog 39 v (.int .i64 i) H'=some (ptr k o,H'))∧k<H.n∧ ∀H':LH,H'.get k=H.get k→
  lld Tryz.prog 9 (ptr k o) H'=some (str l[i].1)∧lld Tryz.prog 9 (ptr k (o+1)) H'=some (str l[i].2):=by
 rcases h with⟨rfl,rfl⟩|⟨k,o,c,rfl,h2⟩
 ·simp at hi
 ·obtain⟨b,h2,h3,h4⟩:=h2 (fun e=>by rw [e]at hi;simp at hi)
  obtain⟨g1,g2,g3,g4⟩:=h4 i hi
  refine⟨k,o+i*2,fun H'=>?_,h3,fun H' e=>?_⟩
  ·have q:=eq_true (show(i:Int)<(l.length:Int) by omega)
   simp [q]
  ·rw [h2]at e
   have hlt:o+i*2<b.cells.length:=by omega
   have hlt2:o+i*2+1<b.cells.length:=by omega
   rw [List.getElem?_eq_getElem hlt]at g3
   rw [List.getElem?_eq_getElem hlt2]at g4
   injection g3 with g3
   injection g4 with g4
   simp [e,g3,g4,hlt,hlt2]
theorem QOwn.row (h:QOwn N H v l):QRow H v l:=by
 rcases h.2 with⟨rfl,h0⟩|⟨k,c,rest,rfl,h1,h2,h3,h4,h5⟩
 ·exact .inl ⟨rfl,List.eq_nil_of_length_eq_zero h0⟩
 ·refine .inr ⟨k,0,c,rfl,fun _=>⟨_,h3,h2,fun i hi=>?_⟩⟩
  have g:=Tg.Sn.pcell_at hi rest
  have hl:=Tg.Sn.pcell_len l
  simp only [Nat.zero_add]
  refine⟨?_,g⟩
  rw [List.length_append,hl];omega
theorem QOwn.slice (h:QOwn N H v l): ∃a n c,v=.slice a n c:=by
 rcases h.2 with⟨rfl,_⟩|⟨k,c,rest,rfl,_⟩
 ·exact⟨_,_,_,rfl⟩
 ·exact⟨_,_,_,rfl⟩
def fewP (l:List Tg.Sn.Par):List Tg.Sn.Par:=(l.take 6).map fun h=>(h.1.take 20,h.2.take 30)
def OutM (H:LH) (s t:List UInt8) (l:List Tg.Sn.Par) (r:Value×LH):Prop:= ∃pa pl pc,r.1=mvp s t (.slice pa pl pc)∧QOwn (H.n+1+1+1) r.2 (.slice pa pl pc) l∧H.le r.2∧r.2.base=H.base∧r.2.ng=H.ng
end
end Go.Proofs.YtjplaockjmhnjaaGreatDoor.Sn
set_option linter.unusedSimpArgs false
set_option linter.unusedVariables false
set_option maxRecDepth 100000
namespace Go.Proofs.YtjplaockjmhnjaaGreatDoor.Sn
open Go.Lg Go.Tg
section
variable {H:LH} {s t u:List UInt8} {pa:Option Addr} {pl pc:Nat} {h n g:Bool} {l:List Tg.Sn.Par}
end
end Go.Proofs.YtjplaockjmhnjaaGreatDoor.Sn
set_option linter.unusedSimpArgs false
set_option linter.unusedVariables false
set_option maxRecDepth 100000
namespace Tg.Ob
def liveH:List Tg.Hd.Hdr:= [([67,111,110,116,101,110,116,45,84,121,112,101],[116,101,120,116,47,104,116,109,108])]
theorem live_t:(Tg.Mi.typeP liveH).isSome=true∧((Tg.Mi.typeP liveH).getD Tg.Mi.noM).t= [116,101,120,116]∧((Tg.Mi.typeP liveH).getD Tg.Mi.noM).s= [104,116,109,108]:=by decide+kernel
end Tg.Ob
namespace Go.Proofs.YtjplaockjmhnjaaGreatDoor.Sn
open Go.Lg Go.Tg
section
variable {H H':LH} {N:Nat} {s t u:List UInt8} {v w:Value} {l:List Tg.Hd.Hdr} {a1 a2:Bool} {me st:Int} {pa:Option Addr} {pl pc:Nat} {h n g j:Bool} {ps:List Tg.Sn.Par}
theorem lfill_hd {a b:List UInt8} :lfill Tryz.prog 67 [str [],str []] [(0,str a),(1,str b)]=some [str a,str b]:=by
 rw [lfill_cell (o:=0) (n:=1) (g:=false) (by simp) rfl (by simp) (by simp),lfill_cell (o:=1) (n:=1) (g:=false) (by simp) rfl (by simp) (by simp)]
 simp
theorem lfill_rp2 {m:Int} {a:Option Addr} {x y:Nat} :lfill Tryz.prog 26 [.int .i64 0,.slice none 0 0] [(0,.int .i64 m),(1,.slice a x y)]=some [.int .i64 m,.slice a x y]:=by
 rw [lfill_cell (o:=0) (n:=1) (g:=false) (by simp) rfl (by simp) (by simp),lfill_cell (o:=1) (n:=1) (g:=false) (by simp) rfl (by simp) (by simp)]
 simp
theorem live_body (hr:HRow H v Tg.Ob.liveH) (ht:Tab H) (hm:MaxL H):LC Tryz.prog EJ 14 [repv 200 v,str s] H=some (jv (bodyP false Tg.Ob.liveH s).1 (bodyP false Tg.Ob.liveH s).2 (s.take 1445).length false,H):=by
 obtain⟨j,e⟩:=body_k (s:=s) (st:=200) hr ⟨by decide,by decide⟩ ht hm (hrow_slice hr)
 rw [e]
 have hb:bodyP j Tg.Ob.liveH s=bodyP false Tg.Ob.liveH s:=by
  cases j
  ·rfl
  ·obtain⟨h1,h2,h3⟩:=Tg.Ob.live_t
   unfold bodyP Tg.Ob.foundP
   rw [h1,h2,h3,show Tg.Ob.ofG true (Tg.Ob.isJson [116,101,120,116] [104,116,109,108]) ([116,101,120,116]++47:: [104,116,109,108])=false by decide]
   simp only [Bool.false_and]
 rw [hb]
theorem lives33_k (ht:Tab H) (hm:MaxL H):LC Tryz.prog EJ 18 [] H=some (.bool true,H):=by
 refine LC_pure rfl Tryz.func18 rfl (Nat.le_of_ble_eq_true rfl) (by decide) (by kernel_rfl) rfl ?_
 obtain⟨H1,hH1⟩: ∃H1,H1=(H.new ⟨[str [67,111,110,116,101,110,116,45,84,121,112,101],str [116,101,120,116,47,104,116,109,108]],67,true⟩).new ⟨[.int .i64 200,sl H.n 1 1],26,true⟩:=⟨_,rfl⟩
 have le1:H.le H1:=by rw [hH1];exact le_refl.new.new
 have k1:H1.get (H.n+1)=some ⟨[.int .i64 200,sl H.n 1 1],26,true⟩:=by rw [hH1];exact get_new
 have bs1:Bs H H1:=by rw [hH1];exact⟨by simp,by simp⟩
 have hr:HRow H1 (sl H.n 1 1) Tg.Ob.liveH:=by
  refine .inr ⟨H.n,0,1,rfl,fun _=>⟨⟨[str [67,111,110,116,101,110,116,45,84,121,112,101],str [116,101,120,116,47,104,116,109,108]],67,true⟩,by rw [hH1,get_new_ne (by simp),get_new],by rw [hH1];simp only [n_new];omega,fun i hi=>?_⟩⟩
  have:i=0:=by simp [Tg.Ob.liveH]at hi;omega
  subst this
  exact⟨by decide,rfl,rfl,rfl⟩
 have e1:=fun s=>live_body (s:=s) hr (tab_bs ht bs1) (hm.bs bs1)
 have e2:=e1 [60,112,62]
 have e3:=e1 [120,61,49]
 rw [show bodyP false Tg.Ob.liveH [60,112,62]=(2,[104,116,109,108]) by decide+kernel]at e2
 rw [show bodyP false Tg.Ob.liveH [120,61,49]=(1,Tg.Ob.wUnconf) by decide+kernel]at e3
 clear e1
 simp only [List.length_take,List.length_cons,List.length_nil]at e2 e3
 generalize Tg.Ob.wUnconf=un at*
 simp [lfill_hd,lfill_rp2,bs1h,←hH1,k1,e2,e3]
 try exact le1
end
end Go.Proofs.YtjplaockjmhnjaaGreatDoor.Sn
set_option linter.unusedSimpArgs false
set_option linter.unusedVariables false
set_option maxRecDepth 100000
namespace Go.Proofs.YtjplaockjmhnjaaGreatDoor
open Go.ChangeShapes Go.WideShapes Go.ChangeAt Go.RowKit Go.Tg Go.Lg
theorem maxN {W:World} (h:W.ShapedOpen Tryz.prog):MaxL (LH.empty W (2+1)):=by
 refine⟨Nat.lt_succ_self _,?_⟩
 exact Go.Proofs.cell_of_shapedOpen_int (P:=Tryz.prog) (w:=W) (zero:=#[.int .i64 0]) (t:=3) (g:=2) h (of_decide_eq_true (by kernel_rfl)) (by kernel_rfl) rfl (by kernel_rfl) (by kernel_rfl) Tryz.underlying3
theorem sizeN {W:World} (h:W.ShapedOpen Tryz.prog):2+1≤W.heap.size:=by
 obtain⟨m,h2⟩:=Go.Proofs.cell_of_shapedOpen_int (P:=Tryz.prog) (w:=W) (zero:=#[.int .i64 0]) (t:=3) (g:=2) h (of_decide_eq_true (by kernel_rfl)) (by kernel_rfl) rfl (by kernel_rfl) (by kernel_rfl) Tryz.underlying3
 have h2':W.cell? ⟨2,0,none⟩=some (.int .i64 m):=h2
 rcases Nat.lt_or_ge 2 W.heap.size with h3|h3
 ·omega
 ·simp [World.cell?,Array.getElem?_eq_none h3]at h2'
theorem returns_and_shaped {H:Type} {enc:TypeId×Value→H} {a:Assume} {C:Checked} {os:Os} {f:FuncId} {fn:Func} {s:ChangeSpec} {conds:List PathCond} {apart fresh handsOn again:Bool} {X:World→Array Value→Prop}
  (hX: ∀(w w':World) (args:Array Value),w.heap=w'.heap→X w args→X w' args)
  (own:Go.ownKnob C.prog.godebug=none) (started:os.Started) (noInit:C.prog.inits.idxOf? f=none) (hfn:C.prog.funcs[f]?=some fn)
  (witness: ∃(w:World) (tape:Tape) (i:Input),w.os=os∧(w.forCall tape i).Shaped C.prog∧i.vars= []∧Input.okWide C.prog (w.forCall tape i) .any w.heap.size f i∧
   ((s.pre enc C.prog fn conds apart (w.forCall tape i).memory i.args∧X (w.forCall tape i).memory i.args)∧sizedMet enc C.prog fn (OpenSpec.ofChange s) apart (w.forCall tape i).memory i.args)∧a.holds C.prog (lone (Frame.enter C.prog f i.args .normal) [] (w.forCall tape i)))
  (contract: ∀(W:World) (base:Nat) (args:Array Value) (ds gs:List (DataW H)) (before:List MemPlace),
   (∀(j:Nat) t v,fn.params[j]?=some t→args[j]?=some v→Value.okWide C.prog W .any base t v)→
   DataW.Whole enc C.prog fn.params.toList s.vars apart W args.toList ds gs before→
   X W args→W.ShapedOpen C.prog→
   Calls C.prog f args W fun e W'=> ∃v,e=.returned v∧s.post enc C.prog fn apart fresh handsOn again W args v W'):
  ReturnsInHanded a C os f .any (fun w args=>(s.pre enc C.prog fn conds apart w args∧X w args)∧sizedMet enc C.prog fn (OpenSpec.ofChange s) apart w args) (s.post enc C.prog fn apart fresh handsOn again):=by
 refine returnsInHanded_of_calls own started noInit witness ?_
 intro w tape i _ hsh _ hok hpre hholds
 obtain⟨_,_,_,fn',hfn',_,_,_,_,hval⟩:=hok
 have e:fn'=fn:=Option.some.inj (hfn'.symm.trans hfn)
 subst e
 obtain⟨⟨⟨ds,gs,before,hw,hc⟩,hx⟩,hz⟩:=hpre
 have hw':=DataW.Whole.of_heap (w':=w.forCall tape i) (by rfl) hw
 refine(contract (w.forCall tape i) w.heap.size i.args ds gs before hval hw' (hX _ _ _ (by rfl) hx) hsh).mono fun e W' ⟨v,he,hp⟩=>?_
 subst he
 exact ChangeSpec.post_blind hp
end Go.Proofs.YtjplaockjmhnjaaGreatDoor
set_option linter.unusedSimpArgs false
set_option linter.unusedVariables false
set_option maxRecDepth 100000
namespace Go.Proofs.YtjplaockjmhnjaaGreatDoor.Sn
open Go.ChangeShapes Go.WideShapes Go.ChangeAt Go.RowKit Go.Tg Go.Lg
theorem cells_hdrR:Tryz.prog.cellsOf 67=2:=by kernel_rfl
theorem cells_hdrsR:Tryz.prog.cellsOf 24=1:=by kernel_rfl
theorem cells_strR:Tryz.prog.cellsOf 9=1:=by kernel_rfl
theorem cells_intR:Tryz.prog.cellsOf 3=1:=by kernel_rfl
theorem cells_rep:Tryz.prog.cellsOf 26=2:=by kernel_rfl
theorem hdr_of_trodR {HH:Type} {enc:TypeId×Value→HH} {W:World} {base fuel:Nat} {sp:Nat→Bool} {held:Bool} {cs:List Value} {x:DataW HH×List MemPlace} (n:Nat) (hf:DataW.trod enc Tryz.prog W base sp held fuel 67 cs=some x): ∃a:Tg.Hd.Hdr,cs.map (lift1 n)= [str a.1,str a.2]:=by
 cases fuel with
 |zero=>simp [DataW.trod]at hf
 |succ m=>
  rw [DataW.trod_step]at hf
  unfold DataW.trodStep at hf
  simp only [Tryz.underlying67,Value.cells]at hf
  split at hf
  ·rename_i hs
   rw [cells_hdrR]at hs
   match cs,hs with
   | [c0,c1],_=>
   simp only [Option.map_eq_some_iff]at hf
   obtain⟨xs,hx,e1⟩:=hf
   simp only [List.mapM_cons,List.mapM_nil,bind,Option.bind_eq_some_iff,pure,Option.some.injEq,cells_strR]at hx
   obtain⟨y0,h0,_,⟨y1,h1,_,rfl,rfl⟩,rfl⟩:=hx
   obtain⟨s0,q0,_,_⟩:=DataW.trod_string Tryz.underlying9 h0
   obtain⟨s1,q1,_,_⟩:=DataW.trod_string Tryz.underlying9 h1
   simp at q0 q1
   subst q0;subst q1
   exact⟨(s0.data.toList,s1.data.toList),by simp only [str_ba];rfl⟩
  ·cases hf
theorem hrow_ofR {W:World} {g:Nat} {v:Value} {xs:List Tg.Hd.Hdr} (h:RowOf (LH.lift W g) 2 (fun(a:Tg.Hd.Hdr) cs=>cs= [str a.1,str a.2]) v xs):HRow (LH.lift W g) v xs:=by
 rcases h with h|⟨l,o,c,h1,_,h2,h3⟩
 ·exact .inl h
 ·refine .inr ⟨l,o,c,h1,fun hne=>?_⟩
  obtain⟨b,h4,h5,h6⟩:=h3 hne
  refine⟨b,h4,h2,fun i hi=>?_⟩
  have h7:=h6 i xs[i] (List.getElem?_eq_getElem hi)
  have hle:o+i*2+2≤b.cells.length:=by
   have:=Nat.mul_le_mul_right 2 (show i+1≤xs.length by omega)
   omega
  have e1:b.cells[o+i*2]?=((b.cells.drop (o+i*2)).take 2)[0]?:=by rw [List.getElem?_take,if_pos (by decide),List.getElem?_drop];rfl
  have e2:b.cells[o+i*2+1]?=((b.cells.drop (o+i*2)).take 2)[1]?:=by rw [List.getElem?_take,if_pos (by decide),List.getElem?_drop]
  exact⟨hle,h7,by rw [e1,h7];rfl,by rw [e2,h7];rfl⟩
theorem lift_intR {n:Nat} {k:IntKind} {x:Int} :lift1 n (.int k x)=.int k x:=rfl
def I64R (n:Int):Prop:= -9223372036854775808≤n∧n≤9223372036854775807
theorem i64_ofR {n:Int} (h:(Lit.int .i64 n).wf=true):I64R n:=(Lit.wf_int_iff .i64 n).1 h
theorem lift_aggR {n:Nat} {cs:Array Value} {l:List Value} (h:cs.toList.map (lift1 n)=l):liftV n (.agg cs)=.agg ⟨l⟩:=by
 show Value.agg (cs.map (lift1 n))=_
 congr 1
 rw [←h,←Array.toList_map]
theorem open_reply {HH:Type} {enc:TypeId×Value→HH} {W:World} {g base b0:Nat} {held:Bool} {r:Reach} {v:Value} {d:DataW HH} {ps:List MemPlace} (hw0:0<W.heap.size)
  (hval:Value.okWide Tryz.prog W r b0 26 v) (hd:DataW.Trod enc Tryz.prog W base (fun _=>true) held 26 v d ps):
  ∃(st:Int) (p:Value) (l:List Tg.Hd.Hdr),liftV W.heap.size v=repv st p∧HRow (LH.lift W g) p l∧l.length≤maxLen∧I64R st:=by
 obtain⟨cs,rfl,hs⟩:=okWide_struct Tryz.underlying26 hval
 rw [cells_rep]at hs
 obtain⟨l⟩:=cs
 match l,hs with
 | [c0,c1],_=>
 obtain⟨fuel,hf⟩:=hd
 cases fuel with
 |zero=>simp [DataW.trod]at hf
 |succ n=>
  rw [DataW.trod_step]at hf
  unfold DataW.trodStep at hf
  simp only [Tryz.underlying26,Value.cells]at hf
  rw [if_pos (by rw [cells_rep];rfl)]at hf
  simp only [Option.map_eq_some_iff]at hf
  obtain⟨xs,hx,e1⟩:=hf
  simp only [List.mapM_cons,List.mapM_nil,bind,Option.bind_eq_some_iff,pure,Option.some.injEq,cells_intR,cells_hdrsR]at hx
  obtain⟨y0,h0,_,⟨y1,h1,_,rfl,rfl⟩,rfl⟩:=hx
  obtain⟨k0,q0,rfl,w0⟩:=DataW.trod_int Tryz.underlying3 h0
  obtain⟨v1,xs,hc,hr,hl⟩:=row_of_trod (El:=fun(a:Tg.Hd.Hdr) cs=>cs= [str a.1,str a.2]) (g:=g) Tryz.underlying24 cells_hdrR (by decide) hw0 (fun fuel cs y hy=>hdr_of_trodR W.heap.size hy) h1
  simp at q0 hc
  subst q0;subst hc
  exact⟨_,_,xs,lift_aggR (by simp only [List.map_cons,List.map_nil,lift_intR]),hrow_ofR hr,hl,i64_ofR w0⟩
noncomputable def laidO2:List (String×DataW Unit):= [("unicode.White_Space",Rows.laid_unicode_White_Space),("strings.asciiSpace",Rows.laid_strings_asciiSpace)]
theorem gTabR:Tryz.prog.globalNamed "strings.asciiSpace" =some 0:=by kernel_rfl
theorem sizeO {W:World} (h:W.ShapedOpen Tryz.prog):3≤W.heap.size:=sizeN h
theorem maxO {W:World} (h:W.ShapedOpen Tryz.prog):MaxL (LH.lift W 3):=⟨by show 2<3;decide,(maxN h).2⟩
end Go.Proofs.YtjplaockjmhnjaaGreatDoor.Sn
set_option linter.unusedSimpArgs false
set_option linter.unusedVariables false
set_option maxRecDepth 100000
namespace Go.Proofs.YtjplaockjmhnjaaGreatDoor.Sn
open Go.ChangeShapes Go.WideShapes Go.ChangeAt Go.RowKit Go.Tg Go.Lg
theorem QRow.slice {H:LH} {v:Value} {l:List Tg.Sn.Par} (h:QRow H v l): ∃pa pl pc,v=.slice pa pl pc:=by
 rcases h with⟨rfl,_⟩|⟨k,o,c,rfl,_⟩
 ·exact⟨_,_,_,rfl⟩
 ·exact⟨_,_,_,rfl⟩
theorem lift_str {n:Nat} (s:ByteArray):liftV n (.string s)=str s.data.toList:=by
 rw [←str_ba];rfl
noncomputable def laidS:List (String×DataW Unit):= [("unicode/utf8.acceptRanges",Rows.laid_unicode_utf8_acceptRanges),("unicode.White_Space",Rows.laid_unicode_White_Space),("strings.asciiSpace",Rows.laid_strings_asciiSpace),("unicode/utf8.first",Rows.laid_unicode_utf8_first)]
theorem tab_of_laidS {W:World} (h:laidMetH Tryz.prog laidS W):Lib.TabIs Tryz.prog W "strings.asciiSpace" .u8 Lib.asciiSpaceTab:=by
 have h1:laidMet Tryz.prog laidS W:=by rwa [MakeChecks.laidMetH_plain _ _ _ (by kernel_rfl)]at h
 have h2:=h1.filter (fun x=>x.1== "strings.asciiSpace")
 have e:laidS.filter (fun x=>x.1== "strings.asciiSpace")= [("strings.asciiSpace",Lib.tabData .u8 Lib.asciiSpaceTab)]:=by kernel_rfl
 rw [e]at h2
 exact Lib.tabIs_of_head (g:=0) (t:=137) (e:=5) (n:=256) gTabR (by kernel_rfl) (by kernel_rfl) (by kernel_rfl) (by kernel_rfl) (by kernel_rfl) h2
theorem tabS {W:World} (h:laidMetH Tryz.prog laidS W):Tab (LH.lift W 3):=⟨by show 0<3;decide,tab_of_laidS h⟩
end Go.Proofs.YtjplaockjmhnjaaGreatDoor.Sn
set_option linter.unusedSimpArgs false
set_option linter.unusedVariables false
set_option maxRecDepth 100000
namespace Tg.Ob
open Tg.Un (pre)
theorem pre_of_take {s p:List UInt8} {n:Nat} (h:pre (s.take n) p=true):pre s p=true:=by
 rw [Tg.Un.pre_take,decide_eq_true_iff]at h⊢
 rw [List.take_take]at h
 have hl:=congrArg List.length h
 rw [List.length_take]at hl
 by_cases hn:p.length≤n
 ·rw [Nat.min_eq_left hn]at h;exact h
 ·omega
theorem break_take {s:List UInt8} {n:Nat} (h:breakP (s.take n)=true):breakP s=true:=by
 unfold breakP at h⊢
 rw [List.any_eq_true]at h⊢
 obtain⟨p,h1,h2⟩:=h
 exact⟨p,h1,pre_of_take h2⟩
theorem found_why {j has:Bool} {s t u:List UInt8} (h:foundP j has s t u≠ []):breakP u=true∨guardP has s t=true:=by
 unfold foundP at h
 unfold guardP
 by_cases h0:breakP u=true
 ·exact .inl h0
 ·refine .inr ?_
  rw [if_neg h0]at h
  cases h1:ofG has (Tg.Sn.isHtml s t) (s++47::t)
  ·cases h2:ofG has (Tg.Sn.isXml s t) (s++47::t)
   ·cases h3:ofG has (isJson s t) (s++47::t)
    ·rw [h1,h2,h3]at h
     simp at h
    ·rfl
   ·rfl
  ·rfl
end Tg.Ob
namespace Go.Proofs.YtjplaockjmhnjaaGreatDoor.Sn
open Go.Lg Go.Tg
section
variable {H H':LH} {s t u:List UInt8} {v w:Value} {l:List Tg.Hd.Hdr} {st:Int}
theorem rprefixS_k:LC Tryz.prog EJ 17 [str s] H=some (.bool (Tg.Ob.breakP s),H):=up rfl Mi.rprefix33_k
theorem free33 (hr:HRow H v l) (hl:l.length≤9223372036854775807) (ht:Tab H) (hm:MaxL H): ∃H',LC Tryz.prog EJ 5 [repv st v,str s] H=some (.bool true,H'):=by
 refine⟨H,?_⟩
 have hc:=hrow_slice hr
 obtain⟨H1,hH1⟩: ∃H1,H1=H.new ⟨[.int .i64 st,v],26,true⟩:=⟨_,rfl⟩
 have le1:H.le H1:=by rw [hH1];exact le_refl.new
 have n1:H1.n=H.n+1:=by rw [hH1];rfl
 have bs1:Bs H H1:=by rw [hH1];exact⟨by simp,by simp⟩
 have b1:H1.get H.n=some ⟨[.int .i64 st,v],26,true⟩:=by rw [hH1];exact get_new
 obtain⟨v2,H2,e2,le2,hr2,bs2⟩:=few30_ex (st:=st) (hr.keep le1.1 le1.2) hl
 have hc2:=hrow_slice hr2.row
 have e3:=fun H:LH=>cut_k (H:=H) (s:=s) (k:=2000) (by decide)
 simp only [show((2000:Int).toNat)=2000 from rfl]at e3
 have b2:=(le2.2 H.n (by omega)).trans b1
 have n2:=le2.1
 generalize s.take 2000=s2 at*
 obtain⟨H3,hH3⟩: ∃H3,H3=H2.set H.n ⟨[.int .i64 st,v2],26,true⟩:=⟨_,rfl⟩
 have le3:H.le H3:=by rw [hH3];exact(le1.trans le2).set (Nat.le_refl _)
 have b3:H3.get H.n=some ⟨[.int .i64 st,v2],26,true⟩:=by rw [hH3,get_set]
 have n3:H3.n=H2.n:=by rw [hH3];rfl
 have bs3:Bs H2 H3:=by rw [hH3];exact⟨by simp,by simp⟩
 have hr3:HOwn H1.n H3 v2 (Tg.Hd.few l 8):=RowN.keep hr2 (by omega) (fun k hk _ _=>by rw [hH3,get_set_ne (by omega)])
 have bs03:=bs1.trans (bs2.trans bs3)
 obtain⟨v4,H4,e4,le4,hr4,bs4⟩:=few30_ex (st:=st) hr3.row (by have:=(Tg.Hd.few_sm l).1;omega)
 rw [Tg.Hd.few_few]at hr4
 have hc4:=hrow_slice hr4.row
 have b4:=(le4.2 H.n (by omega)).trans b3
 have n4:=le4.1
 have bs04:=bs03.trans bs4
 have hle4:=le3.trans le4
 obtain⟨j,e5⟩:=body_k (s:=s2) (st:=st) hr4.row (Tg.Hd.few_sm l) (tab_bs ht bs04) (hm.bs bs04) hc4
 have hnn:(s2.take 1445).length≤1445:=by rw [List.length_take];omega
 obtain⟨H5,hH5⟩: ∃H5,H5=H4.new ⟨[.int .i64 (bodyP j (Tg.Hd.few l 8) s2).1,str (bodyP j (Tg.Hd.few l 8) s2).2,.int .i64 (s2.take 1445).length,.bool false],31,true⟩:=⟨_,rfl⟩
 have le5:H4.le H5:=by rw [hH5];exact le_refl.new
 have n5:H5.n=H4.n+1:=by rw [hH5];rfl
 have c5:H5.get H4.n=some ⟨[.int .i64 (bodyP j (Tg.Hd.few l 8) s2).1,str (bodyP j (Tg.Hd.few l 8) s2).2,.int .i64 (s2.take 1445).length,.bool false],31,true⟩:=by rw [hH5];exact get_new
 have b5:=(le5.2 H.n (by omega)).trans b4
 have bs05:Bs H H5:=bs04.trans (by rw [hH5];exact⟨by simp,by simp⟩)
 have hle5:=hle4.trans le5
 obtain⟨r6,H6,e6,le6,⟨w,rfl,hw⟩,bs6⟩:=rsaid_exS (hr3.row.keep (le4.trans le5).1 (le4.trans le5).2) (Tg.Hd.few_sm l)
 have hcw:=hw.cell
 obtain⟨pa,pl,pc,hsw⟩:=hw.slice
 have hbd:=Tg.Mi.typeP_bd (Tg.Hd.few_sm l) trimH_len
 have bs06:=bs05.trans bs6
 have hle6:=hle5.trans le6
 have c6:=(le6.2 H4.n (by omega)).trans c5
 have e7:=fun H:LH=>rguard_k (H:=H) (s:=((Tg.Mi.typeP (Tg.Hd.few l 8)).getD Tg.Mi.noM).t) (t:=((Tg.Mi.typeP (Tg.Hd.few l 8)).getD Tg.Mi.noM).s) (pa:=pa) (pl:=pl) (pc:=pc) (h:=(Tg.Mi.typeP (Tg.Hd.few l 8)).isSome) (n:=Tg.Mi.noP (Tg.Hd.few l 8)) (g:=Tg.Sn.bug (Tg.Mi.rawP (Tg.Hd.few l 8))) (by have:=hbd.1;have:=hbd.2.1;omega)
 rw [←hsw]at e7
 have e8:=fun H:LH=>rprefixS_k (H:=H) (s:=s2)
 have f5:=lives33_k (tab_bs ht bs05) (hm.bs bs05)
 have f6:=lives33_k (tab_bs ht bs06) (hm.bs bs06)
 have hwhy:=fun h=>Tg.Ob.found_why (j:=j) (has:=(Tg.Mi.typeP (Tg.Hd.few l 8)).isSome) (s:=((Tg.Mi.typeP (Tg.Hd.few l 8)).getD Tg.Mi.noM).t) (t:=((Tg.Mi.typeP (Tg.Hd.few l 8)).getD Tg.Mi.noM).s) (u:=s2.take 1445) h
 have hbt:=Tg.Ob.break_take (s:=s2) (n:=1445)
 have hv:(bodyP j (Tg.Hd.few l 8) s2).1=if Tg.Ob.foundP j (Tg.Mi.typeP (Tg.Hd.few l 8)).isSome ((Tg.Mi.typeP (Tg.Hd.few l 8)).getD Tg.Mi.noM).t ((Tg.Mi.typeP (Tg.Hd.few l 8)).getD Tg.Mi.noM).s (s2.take 1445)= []then 1 else 2:=by
  unfold bodyP
  split<;>rfl
 clear hbd hsw hw
 generalize (bodyP j (Tg.Hd.few l 8) s2).1=vd at*
 generalize (bodyP j (Tg.Hd.few l 8) s2).2=rs at*
 generalize Tg.Ob.foundP j (Tg.Mi.typeP (Tg.Hd.few l 8)).isSome ((Tg.Mi.typeP (Tg.Hd.few l 8)).getD Tg.Mi.noM).t ((Tg.Mi.typeP (Tg.Hd.few l 8)).getD Tg.Mi.noM).s (s2.take 1445)=fd at*
 generalize Tg.Ob.guardP (Tg.Mi.typeP (Tg.Hd.few l 8)).isSome ((Tg.Mi.typeP (Tg.Hd.few l 8)).getD Tg.Mi.noM).t ((Tg.Mi.typeP (Tg.Hd.few l 8)).getD Tg.Mi.noM).s=gd at*
 generalize ((Tg.Mi.typeP (Tg.Hd.few l 8)).getD Tg.Mi.noM)=m at*
 generalize (Tg.Mi.typeP (Tg.Hd.few l 8)).isSome=has at*
 generalize Tg.Mi.noP (Tg.Hd.few l 8)=no at*
 generalize Tg.Sn.bug (Tg.Mi.rawP (Tg.Hd.few l 8))=bg at*
 generalize Tg.Ob.breakP (s2.take 1445)=bq at*
 generalize Tg.Ob.breakP s2=bp at*
 generalize (s2.take 1445).length=nn at*
 have q:=eq_true (show(nn:Int)≤1445 by omega)
 refine LC_pure rfl Tryz.func5 rfl (Nat.le_of_ble_eq_true rfl) (by decide) (by kernel_rfl) rfl ?_
 by_cases h0:fd= []
 ·rw [if_pos h0]at hv
  subst hv
  simp [hc,←hH1,b1,e2,e3,b2,hc2,←hH3,b3,e4,b4,hc4,e5,←hH5,c5,q,f5]
  exact hle5
 ·rw [if_neg h0]at hv
  subst hv
  cases gd with
  |true=>
   simp [hc,←hH1,b1,e2,e3,b2,hc2,←hH3,b3,e4,b4,hc4,e5,←hH5,c5,b5,e6,hcw,e7,c6,q,f6]
   exact hle6
  |false=>
   have hbp:bp=true:=by
    rcases hwhy h0 with h|h
    ·exact hbt h
    ·cases h
   subst hbp
   simp [hc,←hH1,b1,e2,e3,b2,hc2,←hH3,b3,e4,b4,hc4,e5,←hH5,c5,b5,e6,hcw,e7,e8,c6,q,f6]
   exact hle6
end
end Go.Proofs.YtjplaockjmhnjaaGreatDoor.Sn
