/-
  Texts joined, part 6: LgMapE, PlLives, PlFilt, ScPrint, PlRun, PlLaw, DoorC.
-/
import Derived.Test.YteeiipildjgdbaaGreatDoorM4
import Derived.Test.YteeiipildjgdbaaGreatDoorM5
import Derived.Test.YteeiipildjgdbaaGreatDoorRows
import Derived.Test.YteeiipildjgdbaaGreatDoorM1
import Derived.ProofKit
import Derived.WideShapes
import Derived.RowKit
import Derived.ChangeArms
import Derived.LaidMore
import Derived.LaidSub
import Derived.Lib.LaidTab
import Derived.Stop.Joined
import Derived.Shelf.Vars
import Derived.HandedShaped
import Derived.Lay
set_option linter.unusedSimpArgs false
set_option linter.unusedVariables false
namespace Go.Lg
open Go.Tg Go.RowKit Go.MapKept
section
variable {P:Program} {T:Callee} {fr:Fr} {H:LH} {t kt et:TypeId} {kd:TypeDesc} {x y z:Operand} {k v w:Value} {l:Nat} {b:LB}
@[simp] theorem atom_map:atomB (.map none)=true:=rfl
@[simp] theorem known_map {o:Option Nat} :knownB (.map o)=true:=rfl
@[simp] theorem cell_map {o:Option Nat} :cellB (.map o)=true:=rfl
def lput1 (o:Option LH):Option (Value×LH):=o.map fun H'=>(undef,H')
@[simp] theorem lput1_some:lput1 (some H)=some (undef,H):=rfl
@[simp ↓] theorem lopx_makeMap:lopx P T (.makeMap t none) fr H=some (.map (some H.n),H.new ⟨[],0,true⟩):=rfl
@[simp ↓] theorem lopx_lookup {ok:Bool} :lopx P T (.lookup t x y ok) fr H=withH (llookup P t (ev fr x) (ev fr y) ok H) H:=rfl
@[simp ↓] theorem lopx_mapUpdate:lopx P T (.mapUpdate t x y z) fr H=lput1 (lmput P t (ev fr x) (ev fr y) (ev fr z) H):=rfl
theorem lmat_of (hu:P.underlying t=some (.map kt et)) (hk:P.underlying kt=some kd) (hb:H.get l=some b) (hy:keyB kd k=true) {r:Option (Nat×Value)} (hf:lmfind kd k b.cells 0=some r):lmat P t (.map (some l)) k H=some (l,b,r):=by
 unfold lmat;simp [hu,hk,hb,hy,hf]
theorem lmzero_of (hu:P.underlying t=some (.map kt et)) (hk:P.underlying kt=some kd) (hy:keyB kd k=true) (hz:zr P et=some w) (hw:flatB w=true):lmzero P t k=some w:=by
 unfold lmzero;simp [hu,hk,hz,hy,hw]
theorem look_no (hu:P.underlying t=some (.map kt et)) (hk:P.underlying kt=some kd) (hb:H.get l=some b) (hy:keyB kd k=true) (hf:lmfind kd k b.cells 0=some none) (hz:zr P et=some w) (hw:flatB w=true) {ok:Bool} :llookup P t (.map (some l)) k ok H=some (if ok then .tuple #[w,.bool false]else w):=by
 unfold llookup;rw [lmat_of hu hk hb hy hf];simp [lmzero_of hu hk hy hz hw]
@[simp] theorem mlen_nil (hu:P.underlying t=some (.map kt et)):lbuiltin P .len [t] [.map none] H=some (.int .i64 0,H):=by
 unfold lbuiltin;simp [hu]
@[simp] theorem ldelete {u:TypeId} {m:Value} :lbuiltin P .delete [t,u] [m,k] H=(lmdel P t m k H).map fun H'=>(.tuple #[],H'):=by
 unfold lbuiltin;rfl
@[simp] theorem lbuiltin_clear {x:Value} :lbuiltin P .clear [t] [x] H=(lclr P t x H).map fun H'=>(.tuple #[],H'):=by
 unfold lbuiltin;rfl
def mcells (j:IntKind):List (Int×Value×Nat)→List Value
 | []=> []
 |(a,v,s)::es=>.int j a::v::.int .i64 s::mcells j es
def mfind (a:Int):List (Int×Value×Nat)→Nat→Option (Nat×Value)
 | [],_=>none
 |(b,v,_)::es,i=>if a=b then some (i,v)else mfind a es (i+1)
@[simp] theorem mcells_len {j:IntKind} : ∀ {es:List (Int×Value×Nat)},(mcells j es).length=3*es.length
 | []=>rfl
 |_::es=>by simp [mcells,mcells_len (es:=es)];omega
@[simp] theorem find_int {j:IntKind} {a:Int} : ∀ {es:List (Int×Value×Nat)} {i:Nat},lmfind (.int j) (.int j a) (mcells j es) i=some (mfind a es i)
 | [],_=>rfl
 |(b,v,s)::es,i=>by
  unfold mcells lmfind mfind
  by_cases h:a=b
  ·subst h
   simp [Instr.sameNow]
  ·have:(a==b)=false:=by simpa using h
   simp [Instr.sameNow,h,this,find_int (es:=es)]
end
end Go.Lg
set_option maxRecDepth 100000
namespace Go.Proofs.YteeiipildjgdbaaGreatDoor.Sc
open Go.Lg Go.Tg
def playT:List UInt8:= [115,101,116,117,112,32,111,114,98,32,49,52,52,53,32,57,32,50,32,50,10,101,110,100,32,49,10]
def playE:Tg.Sc.Ev:=⟨4,1,[],[],[],0,0,[],[]⟩
theorem play_read:Tg.Sc.readP playT=(livesC,[playE],0,0):=by
 have h:=Tg.Sc.read_print (c:=livesC) (l:= [playE]) (by decide+kernel) (by decide+kernel) (by decide+kernel)
 have e:Tg.Sc.printT livesC [playE]=playT:=by decide+kernel
 rw [e]at h
 exact h
section
variable {H H':LH} {s:List UInt8} {v p:Value} {id k:Int}
theorem bs1o:lbuildSlice Tryz.prog 32 1 [(0,.agg ⟨[.int .i64 k,.int .i64 id,.int .i64 0,.slice none 0 0,str [],str s]⟩)] H=some (sl H.n 1 1,H.new ⟨[.int .i64 k,.int .i64 id,.int .i64 0,.slice none 0 0,str [],str s],53,true⟩):=by
 unfold lbuildSlice
 simp [Instr.fill,Value.cells,Array.range]
 rfl
theorem told39_l:LC Tryz.prog EJ 75 [.int .i64 k,.int .i64 id,str s] H=some (sl H.n 1 1,H.new ⟨[.int .i64 k,.int .i64 id,.int .i64 0,.slice none 0 0,str [],str s],53,true⟩):=by
 have key: ∃r,LC Tryz.prog EJ 75 [.int .i64 k,.int .i64 id,str s] H=some (Lg.trunc H r)∧r=(sl H.n 1 1,H.new ⟨[.int .i64 k,.int .i64 id,.int .i64 0,.slice none 0 0,str [],str s],53,true⟩):=by
  refine LC_runs (P:=Tryz.prog) (E:=EJ) (f:=75) rfl Tryz.func75 rfl (by kernel_rfl) ?_
  simp [bs1o]
 obtain⟨r,e,rfl⟩:=key
 rw [e,trunc_no (by simp [flatB,flat1B,atomB])]
theorem vfill {m:Nat} :lfill Tryz.prog 124 [.map none,.int .i64 0,.int .i64 0,.int .i64 0] [(0,.map (some m)),(2,.int .i64 2)]=some [.map (some m),.int .i64 0,.int .i64 2,.int .i64 0]:=by
 rw [lfill_cell (o:=0) (n:=1) (g:=false) (by simp) rfl rfl (by simp)]
 simp
theorem vnew_ex: ∃r,LC Tryz.prog EJ 52 [.int .i64 2] H=some (Lg.trunc H r)∧r=(.tuple #[ptr (H.n+1) 0,.int .i64 0],(H.new ⟨[],0,true⟩).new ⟨[.map (some H.n),.int .i64 0,.int .i64 2,.int .i64 0],124,true⟩):=by
 refine LC_runs (P:=Tryz.prog) (E:=EJ) (f:=52) rfl Tryz.func52 rfl (by kernel_rfl) ?_
 simp [vfill]
theorem vnew_l:LC Tryz.prog EJ 52 [.int .i64 2] H=some (.tuple #[ptr (H.n+1) 0,.int .i64 0],(H.new ⟨[],0,true⟩).new ⟨[.map (some H.n),.int .i64 0,.int .i64 2,.int .i64 0],124,true⟩):=by
 obtain⟨r,e,rfl⟩:=vnew_ex (H:=H)
 rw [e,trunc_no (by simp [flatB,flat1B,atomB])]
theorem ffill {m q:Nat} :lfill Tryz.prog 92 [.bool false,.int .i64 0,.int .i64 0,.int .i64 0,.int .i64 0,.map none,.pointer none,.int .i64 0,.int .i64 0,.int .i64 0] [(0,.agg #[.bool false,.int .i64 1445,.int .i64 9,.int .i64 2,.int .i64 2]),(1,.map (some m)),(2,ptr q 0)]=some [.bool false,.int .i64 1445,.int .i64 9,.int .i64 2,.int .i64 2,.map (some m),ptr q 0,.int .i64 0,.int .i64 0,.int .i64 0]:=by
 rw [lfill_agg (o:=0) (n:=5) (g:=true) (by simp) rfl (by simp),lfill_cell (o:=5) (n:=1) (g:=false) (by simp) rfl rfl (by simp [splice])]
 simp [splice]
def fcs (m q:Nat) (a b c:Int):List Value:= [.bool false,.int .i64 1445,.int .i64 9,.int .i64 2,.int .i64 2,.map (some m),ptr q 0,.int .i64 a,.int .i64 b,.int .i64 c]
theorem fnew_ex: ∃r,LC Tryz.prog EJ 41 [suv livesC] H=some (Lg.trunc H r)∧r=(.tuple #[ptr (H.n+4) 0,.int .i64 0],((((H.new ⟨[.bool false,.int .i64 1445,.int .i64 9,.int .i64 2,.int .i64 2],64,true⟩).new ⟨[],0,true⟩).new ⟨[.map (some (H.n+1)),.int .i64 0,.int .i64 2,.int .i64 0],124,true⟩).new ⟨[],0,true⟩).new ⟨fcs (H.n+3) (H.n+2) 0 0 0,92,true⟩):=by
 refine LC_runs (P:=Tryz.prog) (E:=EJ) (f:=41) rfl Tryz.func41 rfl (by kernel_rfl) ?_
 have hg:=fun G:LH=>fgood_cl (H:=G) (c:=livesC)
 have hv:=fun G:LH=>vnew_l (H:=G)
 simp [livesC]at hg⊢
 have hf:Tg.Sc.fineS ⟨false,1445,9,2,2⟩=true:=by decide
 have g3: ∀A B C:LB,(((H.new A).new B).new C).get H.n=some A:=fun A B C=>by rw [get_new_ne (by show H.n≠H.n+1+1;omega),get_new_ne (by show H.n≠H.n+1;omega),get_new]
 simp [hg,hv,hf,g3,ffill,fcs]
theorem fnew_l:LC Tryz.prog EJ 41 [suv livesC] H=some (.tuple #[ptr (H.n+4) 0,.int .i64 0],((((H.new ⟨[.bool false,.int .i64 1445,.int .i64 9,.int .i64 2,.int .i64 2],64,true⟩).new ⟨[],0,true⟩).new ⟨[.map (some (H.n+1)),.int .i64 0,.int .i64 2,.int .i64 0],124,true⟩).new ⟨[],0,true⟩).new ⟨fcs (H.n+3) (H.n+2) 0 0 0,92,true⟩):=by
 obtain⟨r,e,rfl⟩:=fnew_ex (H:=H)
 rw [e,trunc_no (by simp [flatB,flat1B,atomB])]
end
section
variable {H H':LH} {s:List UInt8} {v p:Value} {id k:Int}
theorem check_l (hp:cellB p=true):LC Tryz.prog EJ 100 [evv playE p] H=some (str [],H):=by
 refine LC_pure rfl Tryz.func100 rfl (by kernel_rfl) rfl ?_
 simp [playE,hp,le_refl.new]
theorem refuse_ex {f m q:Nat} {a b c:Int} (hg:H.get f=some ⟨fcs m q a 0 c,92,true⟩): ∃r,LC Tryz.prog EJ 101 [ptr f 0,.int .i64 id,str s] H=some (Lg.trunc H r)∧r=(sl H.n 1 1,(H.set f ⟨fcs m q a 1 c,92,true⟩).new ⟨[.int .i64 6,.int .i64 id,.int .i64 0,.slice none 0 0,str [],str s],53,true⟩):=by
 refine LC_runs (P:=Tryz.prog) (E:=EJ) (f:=101) rfl Tryz.func101 rfl (by kernel_rfl) ?_
 have ht:=fun G:LH=>told39_l (H:=G) (k:=6) (id:=id) (s:=s)
 have w:IntKind.i64.wrap 1=1:=by decide
 simp [hg,fcs,ht,w]
theorem one_ex {f m q:Nat} {a b c:Int} (hp:cellB p=true) (hg:H.get f=some ⟨fcs m q a 0 c,92,true⟩) (hm:H.get m=some ⟨[],0,true⟩) (h1:f<H.n) (h2:m<H.n) (h3:f≠m): ∃r,LC Tryz.prog EJ 104 [ptr f 0,evv playE p] H=some (Lg.trunc H r)∧r=(sl (H.n+1) 1 1,((H.new ⟨[.int .i64 4,.int .i64 1,str [],str [],str [],.int .i64 0,.int .i64 0,p,str []],83,true⟩).set f ⟨fcs m q a 1 c,92,true⟩).new ⟨[.int .i64 6,.int .i64 1,.int .i64 0,.slice none 0 0,str [],str [117,110,107,110,111,119,110]],53,true⟩):=by
 refine LC_runs (P:=Tryz.prog) (E:=EJ) (f:=104) rfl Tryz.func104 rfl (by kernel_rfl) ?_
 have e1:=fun B:LB=>(get_new_ne (H:=H) (b:=B) (l:=f) (by omega)).trans hg
 have e2:=fun B:LB=>(get_new_ne (H:=H) (b:=B) (l:=m) (by omega)).trans hm
 have hl:=fun B:LB=>look_no (P:=Tryz.prog) (t:=90) (k:=.int .i64 1) (ok:=false) Tryz.underlying90 Tryz.underlying3 (e2 B) (by rfl) (by rfl) (w:=.pointer none) (by simp) (by rfl)
 simp only [Bool.false_eq_true,if_false]at hl
 have hr:=fun B:LB=>refuse_ex (H:=H.new B) (f:=f) (b:=0) (id:=1) (s:= [117,110,107,110,111,119,110]) (e1 B)
 have hr2: ∀B:LB,LC Tryz.prog EJ 101 [ptr f 0,.int .i64 1,str [117,110,107,110,111,119,110]] (H.new B)=some (sl (H.n+1) 1 1,((H.new B).set f ⟨fcs m q a 1 c,92,true⟩).new ⟨[.int .i64 6,.int .i64 1,.int .i64 0,.slice none 0 0,str [],str [117,110,107,110,111,119,110]],53,true⟩):=fun B=>by
  obtain⟨r,e,rfl⟩:=hr B
  rw [e,trunc_no (by simp [flatB,flat1B,atomB])];rfl
 simp only [fcs]at e1
 simp [playE,hp,e1,hl,hr2]
theorem one_l {f m q:Nat} {a c:Int} (hp:cellB p=true) (hg:H.get f=some ⟨fcs m q a 0 c,92,true⟩) (hm:H.get m=some ⟨[],0,true⟩) (h1:f<H.n) (h2:m<H.n) (h3:f≠m):LC Tryz.prog EJ 104 [ptr f 0,.agg #[.int .i64 4,.int .i64 1,str [],str [],str [],.int .i64 0,.int .i64 0,p,str []]] H=some (sl (H.n+1) 1 1,((H.new ⟨[.int .i64 4,.int .i64 1,str [],str [],str [],.int .i64 0,.int .i64 0,p,str []],83,true⟩).set f ⟨fcs m q a 1 c,92,true⟩).new ⟨[.int .i64 6,.int .i64 1,.int .i64 0,.slice none 0 0,str [],str [117,110,107,110,111,119,110]],53,true⟩):=by
 obtain⟨r,e,rfl⟩:=one_ex (b:=0) hp hg hm h1 h2 h3
 rw [trunc_no (by simp [flatB,flat1B,atomB])]at e
 exact e
theorem check_l2 (hp:cellB p=true):LC Tryz.prog EJ 100 [.agg #[.int .i64 4,.int .i64 1,str [],str [],str [],.int .i64 0,.int .i64 0,p,str []]] H=some (str [],H):=check_l hp
abbrev unk39:LB:=⟨[.int .i64 6,.int .i64 1,.int .i64 0,.slice none 0 0,str [],str [117,110,107,110,111,119,110]],53,true⟩
def Done (H:LH) (f:Nat) (r:Value×LH):Prop:= ∃k,r.1=sl k 1 1∧r.2.get k=some unk39∧k<r.2.n∧H.n≤r.2.n∧ ∀j,j<H.n→j≠f→r.2.get j=H.get j
theorem do_ex {f m q:Nat} {c:Int} (hp:cellB p=true) (hg:H.get f=some ⟨fcs m q 0 0 c,92,true⟩) (hm:H.get m=some ⟨[],0,true⟩) (h1:f<H.n) (h2:m<H.n) (h3:f≠m): ∃r,LC Tryz.prog EJ 76 [ptr f 0,evv playE p] H=some (Lg.trunc H r)∧Done H f r:=by
 refine LC_runs (P:=Tryz.prog) (E:=EJ) (f:=76) rfl Tryz.func76 rfl (by kernel_rfl) ?_
 obtain⟨H1,hH1⟩: ∃H1,H1=H.new ⟨[.int .i64 4,.int .i64 1,str [],str [],str [],.int .i64 0,.int .i64 0,p,str []],83,true⟩:=⟨_,rfl⟩
 have a1:H1.get f=some ⟨fcs m q 0 0 c,92,true⟩:=by rw [hH1,get_new_ne (by omega)];exact hg
 have a2:H1.get m=some ⟨[],0,true⟩:=by rw [hH1,get_new_ne (by omega)];exact hm
 have a3:H1.get H.n=some ⟨[.int .i64 4,.int .i64 1,str [],str [],str [],.int .i64 0,.int .i64 0,p,str []],83,true⟩:=by rw [hH1];exact get_new
 have n1:H1.n=H.n+1:=by rw [hH1];rfl
 obtain⟨H2,hH2⟩: ∃H2,H2=H1.set f ⟨fcs m q 1 0 c,92,true⟩:=⟨_,rfl⟩
 have b1:H2.get f=some ⟨fcs m q 1 0 c,92,true⟩:=by rw [hH2,get_set]
 have b2:H2.get m=some ⟨[],0,true⟩:=by rw [hH2,get_set_ne (by omega)];exact a2
 have b3:H2.get H.n=some ⟨[.int .i64 4,.int .i64 1,str [],str [],str [],.int .i64 0,.int .i64 0,p,str []],83,true⟩:=by rw [hH2,get_set_ne (by omega)];exact a3
 have n2:H2.n=H.n+1:=by rw [hH2];exact n1
 have e1:=one_l hp b1 b2 (by omega) (by omega) h3
 have e2:=check_l2 (H:=H2) hp
 have w:IntKind.i64.wrap 1=1:=by decide
 simp only [fcs]at a1 hH2
 simp [playE,hp,←hH1,a1,w,←hH2,b3,e1,e2]
 refine⟨_,rfl,get_new,by rw [n_new];exact Nat.lt_succ_self _,by simp [n2];omega,fun j hj hf=>?_⟩
 have hj2:j<H2.n:=by omega
 rw [get_new_ne (by simp;omega),get_set_ne hf,get_new_ne (by omega),hH2,get_set_ne hf,hH1,get_new_ne (by omega)]
end
section
variable {H H':LH} {s:List UInt8} {v w p:Value} {xs:List (List UInt8)} {c:Tg.Sc.Setup} {l pre rest:List Tg.Sc.Ev} {e:Tg.Sc.Ev} {N b:Nat}
theorem Bld.old {l:List UInt8} (h:Bld N H b l v) (hle:H.le H'):Bld N H' b l v:=
 ⟨by obtain⟨p,hg,hp⟩:=h.get;exact⟨p,by rw [hle.2 b h.lt];exact hg,hp⟩,h.row.keep hle.1 (fun k _ _ hk=>hle.2 k hk),h.full,h.off,Nat.lt_of_lt_of_le h.lt hle.1,Nat.le_trans h.N hle.1,h.nil⟩
theorem wstr_kp {l s:List UInt8} (h:Bld N H b l v) (hN:N≤b) (hlen:l.length+s.length≤maxElems):
  ∃v' H',LC Tryz.prog EJ 53 [ptr b 0,str s] H=some (.tuple #[.int .i64 s.length,.nilIface],H')∧Bld N H' b (l++s) v'∧(∀k,k<N→H'.get k=H.get k)∧Kp b v H v' H':=by
 obtain⟨v',H',e,hb,hk⟩:=wstr_ex h hlen
 exact⟨v',H',e,hb,fun k hk2=>hk.keep k (by have:=h.lt;omega) (by omega) (h.off_lt hk2),hk⟩
end
section
variable {H H':LH} {s:List UInt8} {v p:Value} {id k:Int} {f:Nat} {r:Value×LH}
theorem Done.trunc (h:Done H f r):Lg.trunc H r=r:=by
 obtain⟨k,h1,h2⟩:=h
 obtain⟨a,b⟩:=r
 simp only at h1
 subst h1
 exact trunc_no (by simp [flatB,flat1B,atomB])
theorem Do_ex {m q:Nat} {c:Int} (hp:cellB p=true) (hg:H.get f=some ⟨fcs m q 0 0 c,92,true⟩) (hm:H.get m=some ⟨[],0,true⟩) (h1:f<H.n) (h2:m<H.n) (h3:f≠m): ∃r,LC Tryz.prog EJ 54 [ptr f 0,evv playE p] H=some r∧Done H f r:=by
 obtain⟨G,hG⟩: ∃G,G=H.new ⟨evl playE p,83,true⟩:=⟨_,rfl⟩
 have g1:G.get f=some ⟨fcs m q 0 0 c,92,true⟩:=by rw [hG,get_new_ne (by omega)];exact hg
 have g2:G.get m=some ⟨[],0,true⟩:=by rw [hG,get_new_ne (by omega)];exact hm
 have g3:G.get H.n=some ⟨evl playE p,83,true⟩:=by rw [hG];exact get_new
 have n1:G.n=H.n+1:=by rw [hG];rfl
 obtain⟨r0,e,d⟩:=do_ex hp g1 g2 (by omega) (by omega) h3
 rw [d.trunc]at e
 have key: ∃r,LC Tryz.prog EJ 54 [ptr f 0,evv playE p] H=some (Lg.trunc H r)∧Done H f r:=by
  refine LC_runs (P:=Tryz.prog) (E:=EJ) (f:=54) rfl Tryz.func54 rfl (by kernel_rfl) ?_
  obtain⟨a,b⟩:=r0
  simp only [playE]at e g3 hG
  simp [playE,hp,←hG,g3,e]
  obtain⟨k,d1,d2,d3,d4,d5⟩:=d
  exact⟨k,d1,d2,d3,by simp only at d4⊢;omega,fun j hj hf=>by rw [d5 j (by omega) hf,hG,get_new_ne (by omega)]⟩
 obtain⟨r,e1,d1⟩:=key
 exact⟨r,by rw [e1,d1.trunc],d1⟩
theorem Bld.rest {N b:Nat} {l:List UInt8} (h:Bld N H b l v) (hn:H.n≤H'.n) (hk: ∀j,N≤j→j<H.n→H'.get j=H.get j) (hb:N≤b):Bld N H' b l v:=
 ⟨by obtain⟨p,hg,hp⟩:=h.get;exact⟨p,by rw [hk b hb h.lt];exact hg,hp⟩,h.row.keep hn (fun k h1 _ h2=>hk k h1 h2),h.full,h.off,Nat.lt_of_lt_of_le h.lt hn,Nat.le_trans h.N hn,h.nil⟩
def outU:Tg.Sc.Out:=⟨6,1,0,[],[],[117,110,107,110,111,119,110]⟩
def lineU:List UInt8:= [114,101,102,117,115,101,100,32,49,32,117,110,107,110,111,119,110]
theorem told_U:Tg.Sc.told outU= [lineU]:=by decide+kernel
theorem itoa_one:Lib.itoa 1= [49]:=by decide+kernel
def playO:List UInt8:= [46,49,10]++(lineU++ [10])
theorem trace_ex {m q N:Nat} {c:Int} (hr:ERow N H v [playE]) (hg:H.get f=some ⟨fcs m q 0 0 c,92,true⟩) (hm:H.get m=some ⟨[],0,true⟩) (h1:f<H.n) (h2:m<H.n) (h3:f≠m) (ht:Tab H) (h10:Tab10 H): ∃H',LC Tryz.prog EJ 42 [ptr f 0,v] H=some (str playO,H')∧H.n≤H'.n∧ ∀j,j<H.n→j≠f→H'.get j=H.get j:=by
 have key: ∃r,LC Tryz.prog EJ 42 [ptr f 0,v] H=some (Lg.trunc H r)∧r.1=str playO∧H.n≤r.2.n∧ ∀j,j<H.n→j≠f→r.2.get j=H.get j:=by
  refine LC_runs (P:=Tryz.prog) (E:=EJ) (f:=42) rfl Tryz.func42 rfl (by kernel_rfl) ?_
  obtain⟨pa,pn,pc,rfl⟩:=hr.slice
  have hlen:=fun G:LH=>hr.len (H':=G)
  obtain⟨k,o,qv,a1,a2,a3,a4⟩:=hr.at (i:=0) (by decide)
  obtain⟨G0,hG0⟩: ∃G,G=H.new ⟨[.pointer none,.slice none 0 0],96,true⟩:=⟨_,rfl⟩
  have n0:G0.n=H.n+1:=by rw [hG0];rfl
  have b0:Bld H.n G0 H.n [] (.slice none 0 0):=by rw [hG0];exact Bld.first
  have l0:H.le G0:=by rw [hG0];exact le_refl.new
  have a5:=(a4 G0 (l0.2 k a2)).1
  have hcell:cellB qv=true:=by
   obtain⟨_,_,_,rfl⟩:=(HOwn.row a3).slice
   rfl
  have a1: ∀G:LH,lixa Tryz.prog 65 (.slice pa pn pc) (.int .i64 0) G=some (ptr k o,G):=a1
  obtain⟨G1,hG1⟩: ∃G,G=G0.new ⟨evl playE qv,83,true⟩:=⟨_,rfl⟩
  have n1:G1.n=H.n+1+1:=by rw [hG1,n_new,n0]
  have l1:G0.le G1:=by rw [hG1];exact le_refl.new
  have b1:Bld H.n G1 H.n [] (.slice none 0 0):=Bld.old b0 l1
  have e1:G1.get (H.n+1)=some ⟨evl playE qv,83,true⟩:=by rw [hG1,←n0];exact get_new
  have bs1:Bs H G1:=by rw [hG1,hG0];exact⟨rfl,rfl⟩
  have t1:=scitoa (H:=G1) (n:=1) (by decide) (by decide) (h10.bs bs1)
  rw [itoa_one]at t1
  obtain⟨v2,G2,w1,w2,w3,w4⟩:=wstr_kp (s:= [46,49,10]) b1 (Nat.le_refl _) (by decide)
  rw [List.nil_append]at w2
  have n2:G1.n≤G2.n:=w4.n
  have e2:G2.get (H.n+1)=some ⟨evl playE qv,83,true⟩:=by rw [w4.keep (H.n+1) (by omega) (by omega) off_nil];exact e1
  have bs2:Bs H G2:=bs1.trans (ext_bs w1)
  have old2: ∀j,j<H.n→G2.get j=H.get j:=fun j hj=>by rw [w3 j hj,l1.2 j (by omega),l0.2 j hj]
  obtain⟨⟨u3,G3⟩,d0,k3,d1,d2,d3,d4,d5⟩:=Do_ex (H:=G2) (q:=q) (c:=c) hcell (by rw [old2 f h1];exact hg) (by rw [old2 m h2];exact hm) (by omega) (by omega) h3
  simp only at d1 d2 d3 d4 d5
  subst d1
  have b3:Bld H.n G3 H.n [46,49,10] v2:=Bld.rest w2 d4 (fun j hj1 hj2=>d5 j hj2 (by omega)) (Nat.le_refl _)
  have bs3:Bs H G3:=bs2.trans (ext_bs d0)
  obtain⟨G4,hG4⟩: ∃G,G=G3.new ⟨[.int .i64 6,.int .i64 1,.int .i64 0,.slice none 0 0,str [],str [117,110,107,110,111,119,110]],53,true⟩:=⟨_,rfl⟩
  have l4:G3.le G4:=by rw [hG4];exact le_refl.new
  have e4:G4.get G3.n=some ⟨[.int .i64 6,.int .i64 1,.int .i64 0,.slice none 0 0,str [],str [117,110,107,110,111,119,110]],53,true⟩:=by rw [hG4];exact get_new
  have bs4:Bs H G4:=by rw [hG4];exact bs3.trans ⟨rfl,rfl⟩
  obtain⟨v5,G5,f1,f2,f3⟩:=told_ex (H:=G4) (p:=.slice none 0 0) (o:=outU) (.inl ⟨rfl,rfl⟩) (by constructor<;>first|decide|simp [outU]) (ht.bs bs4) (h10.bs bs4)
  rw [told_U]at f2
  have bs5:Bs H G5:=bs4.trans (ext_bs f1)
  have hlen5:=fun G:LH=>f2.len (H':=G)
  obtain⟨k6,o6,q1,q2,q3⟩:=f2.at (i:=0) (by decide)
  have q4:=q3 G5 rfl
  have q1: ∀G:LH,lixa Tryz.prog 25 v5 (.int .i64 0) G=some (ptr k6 o6,G):=q1
  have b5:Bld H.n G5 H.n [46,49,10] v2:=Bld.old (Bld.old b3 l4) f3
  obtain⟨v6,G6,x1,x2,x3,x4⟩:=wstr_kp (s:=lineU++ [10]) b5 (Nat.le_refl _) (by decide)
  have c1: ∀t,lbin Tryz.prog .add t (str [46]) (str [49])=some (str [46,49]):=fun t=>cc (by decide) t
  have c2: ∀t,lbin Tryz.prog .add t (str [46,49]) (str [10])=some (str [46,49,10]):=fun t=>cc (by decide) t
  have c3: ∀t,lbin Tryz.prog .add t (str lineU) (str [10])=some (str (lineU++ [10])):=fun t=>cc (by decide) t
  obtain⟨G7,s1,s2,s3⟩:=bstr_ex x2 (by decide)
  have hfin:G7.n≥H.n∧ ∀j,j<H.n→j≠f→G7.get j=H.get j:=by
   have:=x4.n
   have:=f3.1
   have:=l4.1
   refine⟨by omega,fun j hj hf=>?_⟩
   rw [s3 j hj,x3 j hj,f3.2 j (by have:=l4.1;omega),l4.2 j (by omega),d5 j (by omega) hf,old2 j hj]
  have w0:IntKind.i64.wrap 1=1:=by decide
  simp only [outU]at f1
  have a5:lld Tryz.prog 83 (ptr k o) G0=some (evv playE qv):=a5
  simp only [playE]at a5 hG1 e1 e2 d0
  simp only [List.length_singleton]at hlen hlen5
  have hpo: [46,49,10]++(lineU++ [10])=playO:=rfl
  rw [hpo]at s1
  simp [runs_loop,runs_inLoop,hcell,←hG0,hlen,a1,a5,n0,←hG1,t1,c1,c2,w0,w1,e2,d0,d2,←hG4,e4,f1,hlen5,q1,q4,c3,x1,s1]
  exact hfin
 obtain⟨⟨u,H1⟩,e,rfl,d1,d2⟩:=key
 rcases trunc_or (str playO) H H1 with g|⟨g,_,_⟩
 ·exact⟨H1,by rw [e,g],d1,d2⟩
 ·exact⟨H,by rw [e,g],Nat.le_refl _,fun _ _ _=>rfl⟩
theorem run_cl (hm:MaxL H) (ht:Tab H) (h10:Tab10 H):LC Tryz.prog EJ 29 [str playT] H=some (.tuple #[str playO,.int .i64 0,.int .i64 0],H):=by
 refine LC_pure rfl Tryz.func29 rfl (by kernel_rfl) rfl ?_
 obtain⟨⟨u,H1⟩,e1,p1,hu,hle,hr⟩:=read_ex (H:=H) (s:=playT) (by decide) hm ht h10
 rw [play_read]at hu hr
 simp only at hu hr hle
 subst hu
 have bs1:Bs H H1:=ext_bs e1
 obtain⟨G,hG⟩: ∃G,G=H1.new ⟨[.bool false,.int .i64 1445,.int .i64 9,.int .i64 2,.int .i64 2],64,true⟩:=⟨_,rfl⟩
 have nG:G.n=H1.n+1:=by rw [hG];rfl
 have gG:G.get H1.n=some ⟨[.bool false,.int .i64 1445,.int .i64 9,.int .i64 2,.int .i64 2],64,true⟩:=by rw [hG];exact get_new
 have lG:H1.le G:=by rw [hG];exact le_refl.new
 have bsG:Bs H G:=by rw [hG];exact bs1.trans ⟨rfl,rfl⟩
 have e2:=fnew_l (H:=G)
 obtain⟨K,hK⟩: ∃K,K=((((G.new ⟨[.bool false,.int .i64 1445,.int .i64 9,.int .i64 2,.int .i64 2],64,true⟩).new ⟨[],0,true⟩).new ⟨[.map (some (G.n+1)),.int .i64 0,.int .i64 2,.int .i64 0],124,true⟩).new ⟨[],0,true⟩).new ⟨fcs (G.n+3) (G.n+2) 0 0 0,92,true⟩:=⟨_,rfl⟩
 rw [←hK]at e2
 have nK:K.n=G.n+5:=by rw [hK];rfl
 have kf:K.get (G.n+4)=some ⟨fcs (G.n+3) (G.n+2) 0 0 0,92,true⟩:=by rw [hK];exact get_new
 have km:K.get (G.n+3)=some ⟨[],0,true⟩:=by rw [hK,get_new_ne (by simp)];exact get_new
 have lK:G.le K:=by rw [hK];exact le_refl.new.new.new.new.new
 have bsK:Bs H K:=bsG.trans (by rw [hK];exact⟨rfl,rfl⟩)
 have hr':ERow H.n K p1 [playE]:=hr.keep (by omega) (fun k hk=>by rw [lK.2 k (by omega),lG.2 k hk])
 obtain⟨J,e3,j1,j2⟩:=trace_ex hr' kf km (by omega) (by omega) (by omega) (ht.bs bsK) (h10.bs bsK)
 have hfin:H.le J:=⟨by have:=hle.1;omega,fun k hk=>by have:=hle.1;rw [j2 k (by omega) (by omega),lK.2 k (by omega),lG.2 k (by omega),hle.2 k hk]⟩
 obtain⟨pa,pn,pc,rfl⟩:=hr.slice
 simp only [livesC]at e1 e2
 simp [e1,←hG,gG,e2,e3]
 exact hfin
theorem lives42_cl (hm:MaxL H) (ht:Tab H) (h10:Tab10 H):LC Tryz.prog EJ 11 [] H=some (.bool true,H):=by
 refine LC_pure rfl Tryz.func11 rfl (by kernel_rfl) rfl ?_
 have e:=run_cl hm ht h10
 simp only [playT]at e
 have hp:playO= [46,49,10,114,101,102,117,115,101,100,32,49,32,117,110,107,110,111,119,110,10]:=rfl
 simp [e,hp,le_refl]
end
section
variable {H H':LH} {a b:List UInt8} {n:Int}
theorem stepP_len {t:List UInt8} {l:List (List UInt8)} :((Tg.Pl.stepP t l).getD []).length≤l.length:=by
 unfold Tg.Pl.stepP
 rcases Tg.Pl.find_after t l 0 with⟨_,g⟩|⟨j,_,_,g⟩
 ·rw [g];simp
 ·rw [g]
  have:=Tg.Pl.upto_le (l.drop (j+1))
  simp at this⊢
  omega
theorem diffs_law (h1: -9223372036854775808≤n) (h2:n≤9223372036854775807) (hm:MaxL H) (ht:Tab H) (h10:Tab10 H):LC Tryz.prog EJ 3 [str a,str b,.int .i64 n] H=some (.bool true,H):=by
 refine LC_pure rfl Tryz.func3 rfl (by kernel_rfl) rfl ?_
 have c1:=fun H:LH=>hcut_cl (H:=H) (s:=a) (k:=100) (by decide)
 have c2:=fun H:LH=>hcut_cl (H:=H) (s:=b) (k:=100) (by decide)
 have la:(a.take (100:Int).toNat).length≤100:=by simp;omega
 have lb:(b.take (100:Int).toNat).length≤100:=by simp;omega
 generalize a.take (100:Int).toNat=a' at*
 generalize b.take (100:Int).toNat=b' at*
 have e1:=diff_cl (H:=H) (a:=a') (b:=b') (by omega) (by omega) hm
 obtain⟨v,H1,e2,o1⟩:=rlns_ex (H:=H) (s:=a') (by omega)
 obtain⟨w,H2,e3,o2⟩:=rlns_ex (H:=H1) (s:=b') (by omega)
 have b2:=(ext_bs e2).trans (ext_bs e3)
 obtain⟨r3,H3,e4,p,rfl,o3,l3⟩:=step_ex (H:=H2) (s:=a') (n:=n) (by omega) h1 h2 (hm.bs b2) (h10.bs b2)
 have b3:=b2.trans (ext_bs e4)
 obtain⟨r4,H4,e5,p',rfl,o4,l4⟩:=rstep_ex (H:=H3) (s:=a') (n:=n) (by omega) h1 h2
 have b4:=b3.trans (ext_bs e5)
 have x1:=Tg.Pl.lns_len a'
 have x2:=Tg.Pl.lns_len b'
 have x3:=stepP_len (t:=46::Lib.itoa n) (l:=Tg.Pl.lns a')
 have e6:=rtsame_cl (H:=H4) (o3.keep l4.1 l4.2) o4 (by omega)
 have e7:=lives42_cl (hm.bs b4) (ht.bs b4) (h10.bs b4)
 have hle:=le_trans o1.le (le_trans o2.le (le_trans l3 l4))
 have hv:=o1.row.keep o2.le.1 o2.le.2
 have hw:=o2.row
 generalize Tg.Pl.stepP (46::Lib.itoa n) (Tg.Pl.lns a')=sp at*
 generalize Tg.Pl.lns a'=xs at*
 generalize Tg.Pl.lns b'=ys at*
 have hlv:=fun G:LH=>hv.len (H':=G)
 have hlw:=fun G:LH=>hw.len (H':=G)
 simp [c1,c2,e1,e2,e3]
 refine loop_ind (fun(i:Nat) fr' H'=>fr' 0=str a'∧fr' 2=.int .i64 n∧fr' 7=.int .i64 (Tg.Pl.diffP xs ys).1∧fr' 8=str (Tg.Pl.diffP xs ys).2.1∧fr' 9=str (Tg.Pl.diffP xs ys).2.2∧fr' 10=v∧fr' 11=w∧fr' 12=.int .i64 i∧i≤Tg.Pl.agree xs ys∧H'=H2) (fun i=>Tg.Pl.agree xs ys-i) 0 ⟨by simp,by simp,by simp,by simp,by simp,by simp,by simp,by simp,Nat.zero_le _,rfl⟩ ?_
 rintro i fr' H' ⟨f0,f2,f7,f8,f9,f10,f11,f12,hg,rfl⟩ ih
 have hal:=Tg.Pl.agree_le (xs:=xs) (ys:=ys)
 have hw1:IntKind.i64.wrap ((i:Int)+1)=((i:Int)+1):=by rw [wrapI (by omega) (by omega)]
 by_cases h1:i<xs.length
 ·obtain⟨k,o,g1,_,g3⟩:=hv.at h1
  have g4:=g3 H' rfl
  have q1:=eq_true (show(i:Int)<(xs.length:Int) by omega)
  have q1':=eq_false (show¬(i:Int)=(xs.length:Int) by omega)
  have z1:xs.getD i []=xs[i]:=by rw [List.getD_eq_getElem?_getD,List.getElem?_eq_getElem h1];rfl
  by_cases h2:i<ys.length
  ·obtain⟨k',o',g1',_,g3'⟩:=hw.at h2
   have g4':=g3' H' rfl
   have q2:=eq_true (show(i:Int)<(ys.length:Int) by omega)
   have z2:ys.getD i []=ys[i]:=by rw [List.getD_eq_getElem?_getD,List.getElem?_eq_getElem h2];rfl
   by_cases he:xs[i]=ys[i]
   ·have hag:=Tg.Pl.agree_yes hg h1 h2 he
    rw [he]at g4
    have hfin:=fun fr2 j0 j2 j7 j8 j9 j10 j11 j12=>ih (i+1) fr2 H' (by omega) ⟨j0,j2,j7,j8,j9,j10,j11,j12,hag,rfl⟩
    clear ih z1 z2 he
    generalize ys[i]=y at*
    simp [f10,f11,f12,q1,q2,hlv,hlw,g1,g4,g1',g4']
    refine hfin _ ?_ ?_ ?_ ?_ ?_ ?_ ?_ ?_
    all_goals simp [f0,f2,f7,f8,f9,f10,f11,hw1]
   ·have hag:=Tg.Pl.agree_no hg (fun _ _=>he)
    have hd:Tg.Pl.diffP xs ys=((i:Int)+1,xs[i],ys[i]):=by unfold Tg.Pl.diffP;rw [hag,if_neg (by omega),z1,z2]
    rw [hd]at f7 f8 f9
    have hne:=eq_false he
    clear z1 z2 hd
    generalize xs[i]=x at*
    generalize ys[i]=y at*
    simp [f0,f2,f7,f8,f9,f10,f11,f12,q1,q1',q2,hlv,hlw,g1,g4,g1',g4',hne,hw1,e4,e5,e6,e7,hle]
  ·have q2:=eq_false (show¬(i:Int)<(ys.length:Int) by omega)
   have hag:=Tg.Pl.agree_no hg (fun _ h=>absurd h h2)
   have z2:ys.getD i []= []:=by rw [List.getD_eq_getElem?_getD,List.getElem?_eq_none (by omega)];rfl
   have hd:Tg.Pl.diffP xs ys=((i:Int)+1,xs[i],[]):=by unfold Tg.Pl.diffP;rw [hag,if_neg (by omega),z1,z2]
   rw [hd]at f7 f8 f9
   clear z1 z2 hd
   generalize xs[i]=x at*
   simp [f0,f2,f7,f8,f9,f10,f11,f12,q1,q1',q2,hlv,hlw,g1,g4,hw1,e4,e5,e6,e7,hle]
 ·have q1:=eq_false (show¬(i:Int)<(xs.length:Int) by omega)
  have hag:=Tg.Pl.agree_no hg (fun h=>absurd h h1)
  have q1':=eq_true (show(i:Int)=(xs.length:Int) by omega)
  have z1:xs.getD i []= []:=by rw [List.getD_eq_getElem?_getD,List.getElem?_eq_none (by omega)];rfl
  by_cases h2:i<ys.length
  ·obtain⟨k',o',g1',_,g3'⟩:=hw.at h2
   have g4':=g3' H' rfl
   have q2:=eq_true (show(i:Int)<(ys.length:Int) by omega)
   have q2':=eq_false (show¬(i:Int)=(ys.length:Int) by omega)
   have z2:ys.getD i []=ys[i]:=by rw [List.getD_eq_getElem?_getD,List.getElem?_eq_getElem h2];rfl
   have hd:Tg.Pl.diffP xs ys=((i:Int)+1,[],ys[i]):=by unfold Tg.Pl.diffP;rw [hag,if_neg (by omega),z1,z2]
   rw [hd]at f7 f8 f9
   clear z1 z2 hd
   generalize ys[i]=y at*
   simp [f0,f2,f7,f8,f9,f10,f11,f12,q1,q1',q2,q2',hlv,hlw,g1',g4',hw1,e4,e5,e6,e7,hle]
  ·have q2:=eq_false (show¬(i:Int)<(ys.length:Int) by omega)
   have q2':=eq_true (show(i:Int)=(ys.length:Int) by omega)
   have hd:Tg.Pl.diffP xs ys=(0,[],[]):=by unfold Tg.Pl.diffP;rw [if_pos (by omega)]
   rw [hd]at f7 f8 f9
   simp [f0,f2,f7,f8,f9,f10,f11,f12,q1,q1',q2,q2',hlv,hlw,e4,e5,e6,e7,hle]
end
end Go.Proofs.YteeiipildjgdbaaGreatDoor.Sc
namespace Go.Proofs.YteeiipildjgdbaaGreatDoor
open Go.ChangeShapes Go.WideShapes Go.ChangeAt Go.RowKit Go.Tg Go.Lg
noncomputable def laidC:List (String×DataW Unit):= [("unicode/utf8.first",Rows.laid_unicode_utf8_first),("unicode/utf8.acceptRanges",Rows.laid_unicode_utf8_acceptRanges),("internal/strconv.uint64pow10",Rows.laid_internal_strconv_uint64pow10),("math/bits.deBruijn32tab",Rows.laid_math_bits_deBruijn32tab),("math/bits.deBruijn64tab",Rows.laid_math_bits_deBruijn64tab),("strings.asciiSpace",Rows.laid_strings_asciiSpace),("unicode.White_Space",Rows.laid_unicode_White_Space)]
abbrev ngC:Nat:=3
theorem gPowC:Tryz.prog.globalNamed "internal/strconv.uint64pow10" =some 1:=by kernel_rfl
theorem gTabC:Tryz.prog.globalNamed "strings.asciiSpace" =some 2:=by kernel_rfl
theorem laid_plainC {W:World} (h:laidMetH Tryz.prog laidC W):laidMet Tryz.prog laidC W:=by rwa [MakeChecks.laidMetH_plain _ _ _ (by kernel_rfl)]at h
theorem pow_of_laidC {W:World} (h:laidMetH Tryz.prog laidC W):Lib.TabIs Tryz.prog W "internal/strconv.uint64pow10" .u64 Lib.pow10Tab:=by
 have h2:=(laid_plainC h).filter (fun x=>x.1== "internal/strconv.uint64pow10")
 have e:laidC.filter (fun x=>x.1== "internal/strconv.uint64pow10")= [("internal/strconv.uint64pow10",Lib.tabData .u64 Lib.pow10Tab)]:=by kernel_rfl
 rw [e]at h2
 exact Lib.tabIs_of_head (g:=1) (t:=157) (e:=60) (n:=20) gPowC (by kernel_rfl) (by kernel_rfl) (by kernel_rfl) (by kernel_rfl) (by kernel_rfl) h2
theorem tab_of_laidC {W:World} (h:laidMetH Tryz.prog laidC W):Lib.TabIs Tryz.prog W "strings.asciiSpace" .u8 Lib.asciiSpaceTab:=by
 have h2:=(laid_plainC h).filter (fun x=>x.1== "strings.asciiSpace")
 have e:laidC.filter (fun x=>x.1== "strings.asciiSpace")= [("strings.asciiSpace",Lib.tabData .u8 Lib.asciiSpaceTab)]:=by kernel_rfl
 rw [e]at h2
 exact Lib.tabIs_of_head (g:=2) (t:=185) (e:=5) (n:=256) gTabC (by kernel_rfl) (by kernel_rfl) (by kernel_rfl) (by kernel_rfl) (by kernel_rfl) h2
theorem sizeC {W:World} (h:laidMetH Tryz.prog laidC W):ngC≤W.heap.size:=by
 have h1:=(pow_of_laidC h).cell gPowC 0 (by decide)
 have h2:=(tab_of_laidC h).cell gTabC 0 (by decide)
 rcases Nat.lt_or_ge 1 W.heap.size with h3|h3
 ·rcases Nat.lt_or_ge 2 W.heap.size with h4|h4
  ·show _+1≤_
   omega
  ·simp [World.cell?,Array.getElem?_eq_none h4]at h2
 ·simp [World.cell?,Array.getElem?_eq_none h3]at h1
theorem tab10C {W:World} (h:laidMetH Tryz.prog laidC W):Tab10 (LH.empty W (ngC)):=⟨by show 1<ngC;decide,pow_of_laidC h⟩
theorem tabC {W:World} (h:laidMetH Tryz.prog laidC W):Tab (LH.empty W (ngC)):=⟨by show 2<ngC;decide,tab_of_laidC h⟩
theorem maxC {W:World} (h:W.ShapedOpen Tryz.prog):MaxL (LH.empty W (ngC)):=by
 refine⟨by show 0<ngC;decide,?_⟩
 exact Go.Proofs.cell_of_shapedOpen_int (P:=Tryz.prog) (w:=W) (zero:=#[.int .i64 0]) (t:=3) (g:=0) h (of_decide_eq_true (by kernel_rfl)) (by kernel_rfl) rfl (by kernel_rfl) (by kernel_rfl) Tryz.underlying3
theorem returns_and_shaped {H:Type} {enc:TypeId×Value→H} {a:Assume} {C:Checked} {os:Os} {f:FuncId} {fn:Func} {s:ChangeSpec} {conds:List PathCond} {apart fresh handsOn again:Bool} {X:World→Array Value→Prop}
  (hX: ∀(w w':World) (args:Array Value),w.heap=w'.heap→X w args→X w' args)
  (own:Go.ownKnob C.prog.godebug=none) (started:os.Started) (noInit:C.prog.inits.idxOf? f=none) (hfn:C.prog.funcs[f]?=some fn)
  (witness: ∃(w:World) (tape:Tape) (i:Input),w.os=os∧(w.forCall tape i).Shaped C.prog∧i.vars= []∧Input.okWide C.prog (w.forCall tape i) .any w.heap.size f i∧
   ((s.pre enc C.prog fn conds apart (w.forCall tape i).memory i.args∧X (w.forCall tape i).memory i.args)∧sizedMet enc C.prog fn (OpenSpec.ofChange s) apart (w.forCall tape i).memory i.args)∧a.holds C.prog (lone (Frame.enter C.prog f i.args .normal) [] (w.forCall tape i)))
  (contract: ∀(W:World) (base:Nat) (args:Array Value) (ds gs:List (DataW H)) (before:List MemPlace),
   (∀(j:Nat) t v,fn.params[j]?=some t→args[j]?=some v→Value.okWide C.prog W .any base t v)→
   DataW.Whole enc C.prog fn.params.toList s.vars apart W args.toList ds gs before→
   X W args→W.ShapedOpen C.prog→
   Calls C.prog f args W fun e W'=> ∃v,e=.returned v∧s.post enc C.prog fn apart fresh handsOn again W args v W'):
  ReturnsInHanded a C os f .any (fun w args=>(s.pre enc C.prog fn conds apart w args∧X w args)∧sizedMet enc C.prog fn (OpenSpec.ofChange s) apart w args) (s.post enc C.prog fn apart fresh handsOn again):=by
 refine returnsInHanded_of_calls own started noInit witness ?_
 intro w tape i _ hsh _ hok hpre hholds
 obtain⟨_,_,_,fn',hfn',_,_,_,_,hval⟩:=hok
 have e:fn'=fn:=Option.some.inj (hfn'.symm.trans hfn)
 subst e
 obtain⟨⟨⟨ds,gs,before,hw,hc⟩,hx⟩,hz⟩:=hpre
 have hw':=DataW.Whole.of_heap (w':=w.forCall tape i) (by rfl) hw
 refine(contract (w.forCall tape i) w.heap.size i.args ds gs before hval hw' (hX _ _ _ (by rfl) hx) hsh).mono fun e W' ⟨v,he,hp⟩=>?_
 subst he
 exact ChangeSpec.post_blind hp
end Go.Proofs.YteeiipildjgdbaaGreatDoor
