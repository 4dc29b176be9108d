/-
  Texts joined, part 3: LgChB, LgRun, LgCall, LgSimp, Pg, PgB, PgC, PgD, PgE, PgL, PgF, LgBase, LgEv.
-/
import Derived.Test.YteeiipildjgdbaaGreatDoorM2
import Derived.AtR
import Derived.RangeFuncIn
import Derived.Maps.RangeRun
import Derived.RangeFuncRecord
set_option linter.unusedSimpArgs false
set_option linter.unusedVariables false
namespace Go.Lg
open Go.Tg Go.RowKit
theorem put_get {a:Act} {d:Option Tmp} {d':Tmp} {v:Value} (h:d≠some d'):(a.put d v).tmps.getD d' undef=a.tmps.getD d' undef:=by
 cases d with
 |none=>rfl
 |some d=>
  have hne:d≠d':=fun e=>h (by rw [e])
  simp only [Act.put,Array.getD_eq_getD_getElem?]
  rw [Array.getElem?_setIfInBounds_ne hne]
theorem put_same {a:Act} {d:Tmp} {v:Value} (h:d<a.tmps.size):(a.put (some d) v).tmps.getD d undef=v:=by
 simp only [Act.put,Array.getD_eq_getD_getElem?]
 rw [Array.getElem?_setIfInBounds_self_of_lt h];rfl
section
variable [Cvt] {P:Program} {T:Callee} {N:Nat} {ops:Array Oper} {prs:List (Nat×Nat)} {st:Nat→Fr×LH} {H0:LH} {ι0:Ren} {w0:World} {a0:Act}
theorem lopC_congr {fr fr':Fr} {H:LH} {o:Oper} (h: ∀x∈o.op.operands,ev fr x=ev fr' x):lopC P T o fr H=lopC P T o fr' H:=by
 unfold lopC
 rw [lop_congr h]
 obtain⟨dst,op,ty,pos,after,guard⟩:=o
 cases op<;>try rfl
 case convert s d x=>
  simp only
  rw [h x (by simp [Op.operands])]
theorem lopC_ok {fr:Fr} {H H':LH} {o:Oper} {v:Value} {ι:Ren} {w:World} {a:Act} (hT:TOk P T) (hrel:Rel P H ι w) (hfr:FrR H.D ι N fr a.tmps) (h:lopC P T o fr H=some (v,H')):OpOk P H ι o a w v H':=by
 cases hc:cvB o.op with
 |false=>rw [lopC_lop hc]at h;exact lop_ok hT hrel hfr h
 |true=>
  unfold lopC at h
  rw [if_pos hc]at h
  split at h
  ·rename_i s d x ho
   exact new_ok hrel (bytes_at (hfr.ev _) ho h)
  ·cases h
def EarlyX (P:Program) (ops:Array Oper) (st:Nat→Fr×LH) (H:LH) (ι:Ren) (w0:World) (j:Nat) (x:Option Nat) (a:Act) (w:World):Prop:=
 match x with
 |none=>(st (j+1)).2=(st j).2∧ ∀d,dstOf ops j=some d→flatB ((st ops.size).1 d)=true∧a.tmps.getD d undef=(st ops.size).1 d
 |some A=>Early P ops st H ι w0 j A a w
end
section
variable {P:Program} {ops:Array Oper} {st:Nat→Fr×LH} {w0:World}
theorem EarlyX.step {H H':LH} {ι ι':Ren} {w0 w w':World} {j:Nat} {x:Option Nat} {a a':Act} (e:EarlyX P ops st H ι w0 j x a w) (hrel:Rel P H ι w) (ho:Out P H ι w H' ι' w') (ht: ∀d,dstOf ops j=some d→a'.tmps.getD d undef=a.tmps.getD d undef):EarlyX P ops st H' ι' w0 j x a' w':=by
 cases x with
 |none=>exact⟨e.1,fun d hd=>by rw [ht d hd];exact e.2 d hd⟩
 |some A=>exact Early.step e hrel ho ht
end
section
variable [Cvt] {P:Program} {T:Callee} {N:Nat} {ops:Array Oper} {prs:List (Nat×Nat)} {st:Nat→Fr×LH} {H0:LH} {ι0:Ren} {w0:World} {a0:Act}
structure InvL (P:Program) (N:Nat) (ops:Array Oper) (st:Nat→Fr×LH) (H0:LH) (ι0:Ren) (w0:World) (m:Nat) (ι:Ren) (listed:Array Bool) (a:Act) (w:World):Prop where
 le:m≤ops.size
 low: ∀j,j<m→HeapAt ops j→LS listed j
 isnew: ∀j o,m≤j→ops[j]?=some o→heapB o.op=true→LS listed j→newB o.op=true
 af: ∃Af:Nat→Option Nat,(∀j,m≤j→HeapAt ops j→LS listed j→EarlyX P ops st (st m).2 ι w0 j (Af j) a w)∧ ∀j k A,m≤j→m≤k→HeapAt ops j→HeapAt ops k→LS listed j→LS listed k→j≠k→Af j=some A→Af k≠some A
 out:Out P H0 ι0 w0 (st m).2 ι w
 fr:FrR (st m).2.D ι N (frY ops st m listed) a.tmps
theorem frY_congr {m m':Nat} {listed:Array Bool} (h: ∀j,HeapAt ops j→LS listed j→(m≤j↔m'≤j)) (tc:TC P T N ops prs st):frY ops st m listed=frY ops st m' listed:=by
 funext t
 unfold frY
 by_cases h1: ∃j,j<ops.size∧LS listed j∧dstOf ops j=some t
 ·rw [if_pos h1,if_pos h1]
  obtain⟨j,hj,hl,hd⟩:=h1
  by_cases h2: ∃j,m≤j∧HeapAt ops j∧dstOf ops j=some t
  ·obtain⟨k,k1,k2,k3⟩:=h2
   have:=tc.inj k j t k3 hd
   subst this
   rw [if_pos ⟨k,k1,k2,k3⟩,if_pos ⟨k,(h k k2 hl).1 k1,k2,k3⟩]
  ·rw [if_neg h2,if_neg]
   rintro⟨k,k1,k2,k3⟩
   have:=tc.inj k j t k3 hd
   subst this
   exact h2 ⟨k,(h k k2 hl).2 k1,k2,k3⟩
 ·rw [if_neg h1,if_neg h1]
theorem frY_put (tc:TC P T N ops prs st) {m m' i:Nat} {o:Oper} {v:Value} {listed:Array Bool} (hi:i<ops.size) (ho:ops[i]?=some o) (hN: ∀d,o.dst=some d→d<N)
  (h: ∀j,j≠i→HeapAt ops j→(m≤j↔m'≤j)) (hv: ∀d,o.dst=some d→(m'≤i∧HeapAt ops i→v=unk)∧(¬(m'≤i∧HeapAt ops i)→v=(st ops.size).1 d)):
  lput N (frY ops st m listed) o.dst v=some (frY ops st m' (listed.setIfInBounds i true)):=by
 have hset: ∀t,(∀d,o.dst=some d→t≠d)→((∃j,j<ops.size∧LS (listed.setIfInBounds i true) j∧dstOf ops j=some t)↔ ∃j,j<ops.size∧LS listed j∧dstOf ops j=some t):=fun t ht=>by
  constructor
  ·rintro⟨j,h1,h2,h3⟩
   rcases set_iff.1 h2 with h2|h2
   ·exact⟨j,h1,h2,h3⟩
   ·subst h2
    have:o.dst=some t:=by simpa [dstOf,ho]using h3
    exact absurd rfl (ht t this)
  ·rintro⟨j,h1,h2,h3⟩
   exact⟨j,h1,set_iff.2 (.inl h2),h3⟩
 have hearly: ∀t,(∀d,o.dst=some d→t≠d)→((∃j,m≤j∧HeapAt ops j∧dstOf ops j=some t)↔ ∃j,m'≤j∧HeapAt ops j∧dstOf ops j=some t):=fun t ht=>by
  have hne: ∀j,dstOf ops j=some t→j≠i:=fun j hj e=>by
   subst e
   have:o.dst=some t:=by simpa [dstOf,ho]using hj
   exact absurd rfl (ht t this)
  constructor
  ·rintro⟨j,h1,h2,h3⟩;exact⟨j,(h j (hne j h3) h2).1 h1,h2,h3⟩
  ·rintro⟨j,h1,h2,h3⟩;exact⟨j,(h j (hne j h3) h2).2 h1,h2,h3⟩
 have old: ∀t,(∀d,o.dst=some d→t≠d)→frY ops st m listed t=frY ops st m' (listed.setIfInBounds i true) t:=fun t ht=>by
  unfold frY
  by_cases h1: ∃j,j<ops.size∧LS listed j∧dstOf ops j=some t
  ·rw [if_pos h1,if_pos ((hset t ht).2 h1)]
   by_cases h2: ∃j,m≤j∧HeapAt ops j∧dstOf ops j=some t
   ·rw [if_pos h2,if_pos ((hearly t ht).1 h2)]
   ·rw [if_neg h2,if_neg (fun hx=>h2 ((hearly t ht).2 hx))]
  ·rw [if_neg h1,if_neg (fun hx=>h1 ((hset t ht).1 hx))]
 unfold lput
 cases hd:o.dst with
 |none=>
  simp only [Option.some.injEq]
  funext t
  exact old t (fun d hd'=>by rw [hd]at hd';cases hd')
 |some d=>
  simp only
  rw [if_pos (hN d hd)]
  simp only [Option.some.injEq]
  have hdi:dstOf ops i=some d:=by simp [dstOf,ho,hd]
  funext t
  unfold Lg.upd
  by_cases e:t=d
  ·subst e
   rw [if_pos rfl]
   obtain⟨v1,v2⟩:=hv t hd
   unfold frY
   rw [if_pos ⟨i,hi,set_iff.2 (.inr rfl),hdi⟩]
   by_cases hc:m'≤i∧HeapAt ops i
   ·rw [if_pos ⟨i,hc.1,hc.2,hdi⟩];exact v1 hc
   ·rw [if_neg]
    ·exact v2 hc
    ·rintro⟨j,h1,h2,h3⟩
     have:=tc.inj j i t h3 hdi
     subst this
     exact hc ⟨h1,h2⟩
  ·rw [if_neg e]
   exact old t (fun d' hd' e'=>e (by rw [hd]at hd';injection hd' with hd';rw [hd'];exact e'))
theorem adv (tc:TC P T N ops prs st) (hrel0:Rel P H0 ι0 w0) {listed:Array Bool} {a:Act} {w:World} : ∀(n m:Nat) (ι:Ren),ops.size-m≤n→InvL P N ops st H0 ι0 w0 m ι listed a w→ ∃m' ι',InvL P N ops st H0 ι0 w0 m' ι' listed a w∧First ops listed m':=by
 intro n
 induction n with
 |zero=>
  intro m ι hn h
  have:=h.le
  exact⟨m,ι,h,h.le,h.low,.inl (by omega)⟩
 |succ n ih=>
  intro m ι hn h
  by_cases hms:m=ops.size
  ·exact⟨m,ι,h,h.le,h.low,.inl hms⟩
  have hlt:m<ops.size:=by have:=h.le;omega
  by_cases hH:HeapAt ops m
  ·by_cases hl:LS listed m
   ·obtain⟨Af,af1,af2⟩:=h.af
    have hlow: ∀j,j<m+1→HeapAt ops j→LS listed j:=fun j hj hb=>by
     rcases Nat.lt_or_eq_of_le (Nat.le_of_lt_succ hj)with h1|h1
     ·exact h.low j h1 hb
     ·rw [h1];exact hl
    have hframe: ∀t,(∀d,dstOf ops m=some d→t≠d)→frY ops st (m+1) listed t=frY ops st m listed t:=fun t ht=>by
     unfold frY
     have:(∃j,m≤j∧HeapAt ops j∧dstOf ops j=some t)↔ ∃j,m+1≤j∧HeapAt ops j∧dstOf ops j=some t:=by
      constructor
      ·rintro⟨j,h1,h2,h3⟩
       rcases Nat.lt_or_eq_of_le h1 with h4|h4
       ·exact⟨j,h4,h2,h3⟩
       ·subst h4;exact absurd rfl (ht t h3)
      ·rintro⟨j,h1,h2,h3⟩;exact⟨j,by omega,h2,h3⟩
     by_cases h1: ∃j,j<ops.size∧LS listed j∧dstOf ops j=some t
     ·rw [if_pos h1,if_pos h1]
      by_cases h2: ∃j,m≤j∧HeapAt ops j∧dstOf ops j=some t
      ·rw [if_pos h2,if_pos (this.1 h2)]
      ·rw [if_neg h2,if_neg (fun hx=>h2 (this.2 hx))]
     ·rw [if_neg h1,if_neg h1]
    have hat: ∀d,dstOf ops m=some d→frY ops st (m+1) listed d=(st ops.size).1 d:=fun d hd=>by
     unfold frY
     rw [if_pos ⟨m,hlt,hl,hd⟩,if_neg]
     rintro⟨j,h1,_,h3⟩
     have:=tc.inj j m d h3 hd
     omega
    have he:=af1 m (Nat.le_refl _) hH hl
    cases hx:Af m with
    |none=>
     rw [hx]at he
     obtain⟨e1,e2⟩:=he
     refine ih (m+1) ι (by omega) ⟨hlt,hlow,fun j o hj=>h.isnew j o (by omega),⟨Af,fun j hj hb hlj=>?_,fun j k A hj hk=>af2 j k A (by omega) (by omega)⟩,by rw [e1];exact h.out,h.fr.1,fun t=>?_⟩
     ·rw [e1];exact af1 j (by omega) hb hlj
     ·rw [e1]
      by_cases ht: ∃d,dstOf ops m=some d∧t=d
      ·obtain⟨d,hd,rfl⟩:=ht
       obtain⟨f1,f2⟩:=e2 t hd
       rw [hat t hd,f2];exact .flat _ f1
      ·rw [hframe t (fun d hd e=>ht ⟨d,hd,e⟩)];exact h.fr.2 t
    |some A=>
     rw [hx]at he
     obtain⟨b,im,rfl,h1,h2,h8'⟩:=Early.ex he
     have hpin: ∀g,g<(st m).2.ng→g≠im.blk:=fun g hg e=>by
      rw [h.out.ng]at hg
      have h8:=(hrel0.pin g hg).2.1
      have h9:=Early.ge he
      omega
     obtain⟨r1,r2,r3,r4,r5⟩:=rel_reg h.out.rel h2 (Early.no he) hpin
     have hge:=Early.ge he
     have hout:Out P H0 ι0 w0 ((st m).2.new b) (ι.add (st m).2.n im) w:=by
      refine⟨r1,Nat.le_succ_of_le h.out.n,fun l hl=>r2 l (h.out.sub l hl),fun l hl=>(r3 l (h.out.sub l hl)).trans (h.out.same l hl),h.out.chg,fun k hk=>?_,fun k hk=>?_,?_⟩
      ·rcases r4 k hk with g|g
       ·exact h.out.rw k g
       ·exact .inr (by omega)
      ·rcases r5 k hk with g|g
       ·exact h.out.img k g
       ·exact .inr (by omega)
      ·exact h.out.ng
     refine ih (m+1) (ι.add (st m).2.n im) (by omega) ⟨hlt,hlow,fun j o hj=>h.isnew j o (by omega),⟨Af,fun j hj hb hlj=>?_,fun j k A hj hk=>af2 j k A (by omega) (by omega)⟩,by rw [h1];exact hout,h.fr.1,fun t=>?_⟩
     ·rw [h1]
      have ej:=af1 j (by omega) hb hlj
      cases hy:Af j with
      |none=>rw [hy]at ej;exact ej
      |some B=>
       rw [hy]at ej
       have hBA:B≠im.blk:=fun e=>af2 m j im.blk (Nat.le_refl _) (by omega) hH hb hl hlj (by omega) hx (by rw [hy,e])
       obtain⟨b',im',rfl,k1,k2,k8⟩:=Early.ex ej
       exact⟨⟨b',im',rfl,k1,k2.mono r2 r3,k8⟩,Early.ge ej,fun hi=>by
         rcases r5 _ hi with g|g
         ·exact Early.no ej g
         ·exact hBA g⟩
     ·rw [h1]
      by_cases ht: ∃d,dstOf ops m=some d∧t=d
      ·obtain⟨d,hd,rfl⟩:=ht
       rw [hat t hd]
       exact h8' _ hd _ _ ((D_new h.out.rel _).2 (.inr rfl)) (by simp [Ren.add])
      ·rw [hframe t (fun d hd e=>ht ⟨d,hd,e⟩)];exact(h.fr.2 t).mono r2 r3
   ·exact⟨m,ι,h,h.le,h.low,.inr ⟨hH,hl⟩⟩
  ·obtain⟨o,ho⟩: ∃o,ops[m]?=some o:=⟨_,Array.getElem?_eq_getElem hlt⟩
   have hb:heapB o.op=false:=by
    cases hq:heapB o.op with
    |false=>rfl
    |true=>exact absurd ⟨o,ho,hq⟩ hH
   have e1:=tc.quiet1 ho hb
   have ne: ∀j,HeapAt ops j→(m≤j↔m+1≤j):=fun j hj=>⟨fun hm=>Nat.lt_of_le_of_ne hm (fun e=>hH (e▸hj)),fun hm=>by omega⟩
   obtain⟨Af,af1,af2⟩:=h.af
   refine ih (m+1) ι (by omega) ⟨hlt,fun j hj hb'=>h.low j (Nat.lt_of_le_of_ne (Nat.le_of_lt_succ hj) (fun e=>hH (e▸hb'))) hb',fun j o hj=>h.isnew j o (by omega),⟨Af,fun j hj hb' hlj=>by rw [e1];exact af1 j (by omega) hb' hlj,fun j k A hj hk=>af2 j k A (by omega) (by omega)⟩,by rw [e1];exact h.out,?_⟩
   rw [e1,←frY_congr (m:=m) (m':=m+1) (fun j hj _=>ne j hj) tc]
   exact h.fr
structure PC (P:Program) (N:Nat) (ops:Array Oper) (st:Nat→Fr×LH) (H0:LH) (ι0:Ren) (w0:World) (a0:Act) (listed:Array Bool) (a:Act) (w:World):Prop where
 size:listed.size=ops.size
 cl:Cl ops listed
 ex: ∃m ι,InvL P N ops st H0 ι0 w0 m ι listed a w∧First ops listed m
 defers:a.defers=a0.defers
theorem pc_step (hT:TOk P T) (hrel0:Rel P H0 ι0 w0) (tc:TC P T N ops prs st) {listed:Array Bool} {a:Act} {w:World} (pc:PC P N ops st H0 ι0 w0 a0 listed a w) {i:Nat} (hi:i∈Region.ready .any ops listed) {Q:Exit→Act→World→Prop} :
  wpOp P ops Q i (fun a' w'=>PC P N ops st H0 ι0 w0 a0 (listed.setIfInBounds i true) a' w') a w:=by
 obtain⟨hun,o,ho,hall⟩:=mem_ready.1 hi
 have hilt:=(ready_lt hi).1
 have hnl: ¬LS listed i:=fun h=>by unfold LS at h;rw [hun]at h;cases h
 obtain⟨b,v,hw,hp,h1,h3,h2⟩:=tc.step i o ho
 obtain⟨m,ι,hinv,hfirst⟩:=pc.ex
 have hout:=hinv.out
 have hfr:=hinv.fr
 have hag: ∀t∈Oper.looksAt ops o,frY ops st m listed t=(st i).1 t:=fun t ht=>tc.agree pc.cl hfirst hi ho ht (fun k ok hk hb hl hmk=>hinv.isnew k ok hmk hk hb hl)
 have hev: ∀x∈o.op.operands,ev (frY ops st m listed) x=ev (st i).1 x:=fun x hx=>ev_congr hag x hx
 have hwX:lwant ops (frY ops st m listed) o=some b:=(lwant_congr hag).trans hw
 have hN: ∀d,o.dst=some d→d<N:=fun d hd=>by
  rw [hd]at hp
  simp only [lput]at hp
  split at hp
  ·assumption
  ·cases hp
 have hvd: ∀d,o.dst=some d→(st ops.size).1 d=v:=fun d hd=>by
  have hdi:dstOf ops i=some d:=by simp [dstOf,ho,hd]
  rw [tc.fdst hdi hilt (Nat.le_refl _)]
  rw [hd]at hp
  simp only [lput]at hp
  split at hp
  ·simp only [Option.some.injEq]at hp
   rw [←hp]
   show(if d=d then v else _)=v
   rw [if_pos rfl]
  ·cases hp
 have hcl:Cl ops (listed.setIfInBounds i true):=fun j oj hj hl e he hb=>by
  rcases set_iff.1 hl with h|h
  ·exact set_iff.2 (.inl (pc.cl j oj hj h e he hb))
  ·subst h
   have:oj=o:=Option.some.inj (hj.symm.trans ho)
   subst this
   exact set_iff.2 (.inl (getD_ft (hall e he hb)))
 have hsz:(listed.setIfInBounds i true).size=ops.size:=by simp [pc.size]
 have bk: ∀k j,j<ops.size→k<ops.size→mbit (masks ops.toList []) k j=true→j<k:=by
  intro k
  induction k using Nat.strongRecOn with
  |ind k ih=>
   intro j hj hk hx
   obtain⟨e,e1,e2,e3,e4⟩:=mbit_step (Array.getElem?_eq_getElem hk) hx
   rcases e4 with rfl|e4
   ·exact e3
   ·have:=ih e.on e3 j hj (by omega) e4
    omega
 have hone: ∀j,HeapAt ops j→heapB o.op=false→j≠i:=fun j ⟨oj,hoj,hbj⟩ hb e=>by
  subst e
  have:oj=o:=Option.some.inj (hoj.symm.trans ho)
  subst this
  rw [hb]at hbj;cases hbj
 have dne: ∀ {j:Nat},j≠i→ ∀d,dstOf ops j=some d→o.dst≠some d:=fun {j} hj d hd e=>hj (tc.inj j i d hd (by simp [dstOf,ho,e]))
 obtain⟨Af,af1,af2⟩:=hinv.af
 have quiet:heapB o.op=false→ ∀(v':Value) (w':World) (ι':Ren),Out P (st m).2 ι w (st m).2 ι' w'→VR (st m).2.D ι' v v'→PC P N ops st H0 ι0 w0 a0 (listed.setIfInBounds i true) (a.put o.dst v') w':=fun hb v' w' ι' ho2 hvr=>by
  have hput:=frY_put (m:=m) (m':=m) (v:=v) (listed:=listed) tc hilt ho hN (fun j _ _=>Iff.rfl) (fun d hd=>⟨fun hc=>absurd rfl (hone i hc.2 hb),fun _=>(hvd d hd).symm⟩)
  refine⟨hsz,hcl,⟨m,ι',⟨hinv.le,fun j hj hbj=>set_iff.2 (.inl (hinv.low j hj hbj)),fun j oj hmj hj hbj hl=>?_,⟨Af,fun j hmj hbj hl=>?_,fun j k A hj hk hbj hbk hl1 hl2=>?_⟩,hout.trans ho2,(hfr.mono ho2.sub ho2.same).put hput hvr⟩,hfirst.1,fun j hj hbj=>set_iff.2 (.inl (hfirst.2.1 j hj hbj)),?_⟩,by rw [put_defers];exact pc.defers⟩
  ·rcases set_iff.1 hl with h|h
   ·exact hinv.isnew j oj hmj hj hbj h
   ·exact absurd h.symm (hone j ⟨oj,hj,hbj⟩ hb)
  ·rcases set_iff.1 hl with h|h
   ·exact(af1 j hmj hbj h).step hout.rel ho2 (fun d hd=>put_get (dne (hone j hbj hb) d hd))
   ·exact absurd h.symm (hone j hbj hb)
  ·rcases set_iff.1 hl1 with h|h
   ·rcases set_iff.1 hl2 with h'|h'
    ·exact af2 j k A hj hk hbj hbk h h'
    ·exact absurd h'.symm (hone k hbk hb)
   ·exact absurd h.symm (hone j hbj hb)
  ·rcases hfirst.2.2 with h|⟨h,h'⟩
   ·exact .inl h
   ·refine .inr ⟨h,fun hx=>?_⟩
    rcases set_iff.1 hx with g|g
    ·exact h' g
    ·exact hone m h hb g.symm
 have first:heapB o.op=true→i=m→ ∀(v':Value) (w':World) (ι':Ren),Out P (st m).2 ι w (st (m+1)).2 ι' w'→VR (st (m+1)).2.D ι' v v'→PC P N ops st H0 ι0 w0 a0 (listed.setIfInBounds i true) (a.put o.dst v') w':=fun hb him v' w' ι' ho2 hvr=>by
  subst him
  have hput:=frY_put (m:=i) (m':=i+1) (v:=v) (listed:=listed) tc hilt ho hN (fun j hj _=>⟨fun h=>Nat.lt_of_le_of_ne h (fun e=>hj e.symm),fun h=>by omega⟩) (fun d hd=>⟨fun hc=>absurd hc.1 (by omega),fun _=>(hvd d hd).symm⟩)
  have hl2:InvL P N ops st H0 ι0 w0 (i+1) ι' (listed.setIfInBounds i true) (a.put o.dst v') w':=by
   refine⟨hilt,fun j hj hbj=>?_,fun j oj hmj hj hbj hl=>?_,⟨Af,fun j hmj hbj hl=>?_,fun j k A hj hk hbj hbk hl1 hl2=>?_⟩,hout.trans ho2,(hfr.mono ho2.sub ho2.same).put hput hvr⟩
   ·rcases Nat.lt_or_eq_of_le (Nat.le_of_lt_succ hj)with h|h
    ·exact set_iff.2 (.inl (hinv.low j h hbj))
    ·exact set_iff.2 (.inr h.symm)
   ·rcases set_iff.1 hl with h|h
    ·exact hinv.isnew j oj (by omega) hj hbj h
    ·omega
   ·rcases set_iff.1 hl with h|h
    ·exact(af1 j (by omega) hbj h).step hout.rel ho2 (fun d hd=>put_get (dne (by omega) d hd))
    ·omega
   ·rcases set_iff.1 hl1 with h|h
    ·rcases set_iff.1 hl2 with h'|h'
     ·exact af2 j k A (by omega) (by omega) hbj hbk h h'
     ·omega
    ·omega
  obtain⟨m',ι2,k1,k2⟩:=adv tc hrel0 _ _ _ (Nat.le_refl _) hl2
  exact⟨hsz,hcl,⟨m',ι2,k1,k2⟩,by rw [put_defers];exact pc.defers⟩
 have early:heapB o.op=true→i≠m→m<i∧newB o.op=true∧ ∀(v':Value) (w':World) (x:Option Nat),Out P (st m).2 ι w (st m).2 ι w'→EarlyX P ops st (st m).2 ι w0 i x (a.put o.dst v') w'→(∀A,x=some A→ ∀j,Af j=some A→m≤j→HeapAt ops j→LS listed j→False)→PC P N ops st H0 ι0 w0 a0 (listed.setIfInBounds i true) (a.put o.dst v') w':=fun hb him=>by
  have hHi:HeapAt ops i:=⟨o,ho,hb⟩
  have hmi:m<i:=by
   rcases Nat.lt_or_ge i m with h|h
   ·exact absurd (hinv.low i h hHi) hnl
   ·omega
  obtain⟨⟨om,hom,hbm⟩,hml⟩:HeapAt ops m∧ ¬LS listed m:=by
   rcases hfirst.2.2 with h|h
   ·omega
   ·exact h
  have hms:=(Array.getElem?_eq_some_iff.1 hom).1
  have hnew:newB o.op=true:=by
   rcases tc.heap i m o om ho hom hb him with hx|hx|hx|hx|hx
   ·exact absurd (mbit_ready pc.cl hi hx) hml
   ·have:=bk m i hilt hms hx;omega
   ·exact hx.2.2
   ·omega
   ·rw [hx.1]at hbm;cases hbm
  refine⟨hmi,hnew,fun v' w' x ho2 he hdis=>?_⟩
  have hput:=frY_put (m:=m) (m':=m) (v:=unk) (listed:=listed) tc hilt ho hN (fun j _ _=>Iff.rfl) (fun d hd=>⟨fun _=>rfl,fun hc=>absurd ⟨by omega,hHi⟩ hc⟩)
  refine⟨hsz,hcl,⟨m,ι,⟨hinv.le,fun j hj hbj=>set_iff.2 (.inl (hinv.low j hj hbj)),fun j oj hmj hj hbj hl=>?_,⟨fun j=>if j=i then x else Af j,fun j hmj hbj hl=>?_,fun j k A hj hk hbj hbk hl1 hl2 hjk hA=>?_⟩,hout.trans ho2,(hfr.mono ho2.sub ho2.same).put hput (.any _)⟩,hfirst.1,fun j hj hbj=>set_iff.2 (.inl (hfirst.2.1 j hj hbj)),.inr ⟨⟨om,hom,hbm⟩,fun hx=>?_⟩⟩,by rw [put_defers];exact pc.defers⟩
  ·rcases set_iff.1 hl with h|h
   ·exact hinv.isnew j oj hmj hj hbj h
   ·subst h
    have:oj=o:=Option.some.inj (hj.symm.trans ho)
    subst this
    exact hnew
  ·by_cases hji:j=i
   ·subst hji;simp only [if_true];exact he
   ·simp only [if_neg hji]
    rcases set_iff.1 hl with h|h
    ·exact(af1 j hmj hbj h).step hout.rel ho2 (fun d hd=>put_get (dne hji d hd))
    ·exact absurd h.symm hji
  ·by_cases hji:j=i
   ·subst hji
    simp only [if_true]at hA
    show(if k=j then x else Af k)≠some A
    rw [if_neg (Ne.symm hjk)]
    rcases set_iff.1 hl2 with h|h
    ·exact fun hk'=>hdis A hA k hk' hk hbk h
    ·exact absurd h hjk
   ·simp only [if_neg hji]at hA
    rcases set_iff.1 hl1 with h|h
    ·by_cases hki:k=i
     ·subst hki
      simp only [if_true]
      exact fun hx=>hdis A hx j hA hj hbj h
     ·show(if k=i then x else Af k)≠some A
      rw [if_neg hki]
      rcases set_iff.1 hl2 with h'|h'
      ·exact af2 j k A hj hk hbj hbk h h' hjk hA
      ·exact absurd h'.symm hki
    ·exact absurd h.symm hji
  ·rcases set_iff.1 hx with g|g
   ·exact hml g
   ·exact him g
 unfold wpOp
 simp only [ho]
 cases b with
 |false=>
  obtain⟨hv,hH⟩:=h2 rfl
  rw [if_neg (by rw [want_eq hfr hwX];simp)]
  subst hv
  cases hb:heapB o.op with
  |false=>exact quiet hb undef w ι (Out.refl hout.rel) (.flat _ rfl)
  |true=>
   by_cases him:i=m
   ·exact first hb him undef w ι (by rw [←him,hH,him];exact Out.refl hout.rel) (.flat _ rfl)
   ·obtain⟨_,_,k⟩:=early hb him
    refine k undef w none (Out.refl hout.rel) ⟨hH,fun d hd=>?_⟩ (fun A hA=>by cases hA)
    have hd':o.dst=some d:=by simpa [dstOf,ho]using hd
    rw [hvd d hd',hd']
    exact⟨rfl,put_same (by rw [hfr.1];exact hN d hd')⟩
 |true=>
  obtain⟨hop,hR⟩:=h1 rfl
  rw [if_pos (want_eq hfr hwX)]
  left
  cases hb:heapB o.op with
  |true=>
   by_cases him:i=m
   ·rw [←lopC_congr hev,him]at hop
    exact lopC_ok hT hout.rel hfr hop _ _ (fun ι' v' w' ho2 hvr=>first hb him v' w' ι' ho2 hvr)
   ·obtain⟨hmi,hnew,k⟩:=early hb him
    rw [←lopC_congr hev]at hop
    obtain⟨b,g1,g2⟩:=alloc_atC (HS:=(st m).2) hfr hop hnew
    obtain⟨w1,im,v',hrun,⟨hch,him2,hbr⟩,hv'⟩:=g2 w
    unfold Oper.wp
    rw [hrun]
    simp only [Oper.upon]
    have hout2:=out_change hout.rel hch
    have hwlt:w0.heap.size≤w.heap.size:=hout.chg.size
    refine k v' _ (some im.blk) hout2 ⟨⟨b,im,rfl,g1,hbr,fun d hd D' ι' q1 q2=>?_⟩,by omega,fun hi=>?_⟩ (fun A hA j hAj hmj hbj hlj=>?_)
    ·have hd':o.dst=some d:=by simpa [dstOf,ho]using hd
     rw [hvd d hd',hd',put_same (by rw [hfr.1];exact hN d hd')]
     exact hv' D' ι' q1 q2
    ·obtain⟨l,b',e1,e2⟩:=hi
     have:=hout.rel.lt e1
     omega
    ·injection hA with hA
     have ej:=af1 j hmj hbj hlj
     rw [hAj]at ej
     obtain⟨_,_,rfl,_,e7,_⟩:=Early.ex ej
     have:=e7.some
     omega
  |false=>
   rw [lopC_lop (cv_of hb)]at hop
   have hnow:lop P T o (st i).1 (st m).2=some (v,(st m).2):=by
    cases hrd:rdB o.op with
    |false=>exact lop_free hb hrd hop _
    |true=>
     have hsame:=lop_same hb hop
     rw [hsame]at hop
     rcases Nat.lt_or_ge m i with h|h
     ·
      obtain⟨⟨om,hom,hbm⟩,hml⟩:HeapAt ops m∧ ¬LS listed m:=by
       rcases hfirst.2.2 with h'|h'
       ·omega
       ·exact h'
      have hms:=(Array.getElem?_eq_some_iff.1 hom).1
      rcases tc.heap m i om o hom ho hbm (by omega)with hx|hx|hx|hx|hx
      ·have:=bk m i hilt hms hx;omega
      ·exact absurd (mbit_ready pc.cl hi hx) hml
      ·rw [hb]at hx;cases hx.1
      ·rw [hb]at hx;cases hx.1
      ·rcases hx.2 with hx2|hx2
       ·rw [hrd]at hx2;cases hx2
       ·exact T0_le (hR m hx2 h)
     ·by_cases hex: ∃j oj,i≤j∧j<m∧ops[j]?=some oj∧heapB oj.op=true
      ·
       have: ∃j,(∃oj,i≤j∧j<m∧ops[j]?=some oj∧heapB oj.op=true)∧ ∀k,j<k→ ¬ ∃oj,i≤k∧k<m∧ops[k]?=some oj∧heapB oj.op=true:=by
        obtain⟨j,oj,hj⟩:=hex
        have: ∀n j,m-j<n→(∃oj,i≤j∧j<m∧ops[j]?=some oj∧heapB oj.op=true)→ ∃j,(∃oj,i≤j∧j<m∧ops[j]?=some oj∧heapB oj.op=true)∧ ∀k,j<k→ ¬ ∃oj,i≤k∧k<m∧ops[k]?=some oj∧heapB oj.op=true:=by
         intro n
         induction n with
         |zero=>intro j hj;omega
         |succ n ih=>
          intro j hjn hj
          by_cases hk: ∃k,j<k∧ ∃oj,i≤k∧k<m∧ops[k]?=some oj∧heapB oj.op=true
          ·obtain⟨k,hkj,hk⟩:=hk
           refine ih k ?_ hk
           obtain⟨_,_,hkm,_⟩:=hk
           omega
          ·exact⟨j,hj,fun k hkj hx=>hk ⟨k,hkj,hx⟩⟩
        exact this (m-j+1) j (Nat.lt_succ_self _) ⟨oj,hj⟩
       obtain⟨j,⟨oj,hij,hjm,hj,hbj⟩,hlast⟩:=this
       have hjs:=(Array.getElem?_eq_some_iff.1 hj).1
       have hjl:=hinv.low j hjm ⟨oj,hj,hbj⟩
       have hji:j≠i:=fun e=>hnl (e▸hjl)
       have e:(st m).2=(st (j+1)).2:=tc.between (by omega) hinv.le (fun k ok hjk hkm hk=>by
        cases hbk:heapB ok.op with
        |false=>rfl
        |true=>exact absurd ⟨ok,by omega,hkm,hk,hbk⟩ (hlast k (by omega)))
       rw [e]
       rcases tc.heap j i oj o hj ho hbj hji with hx|hx|hx|hx|hx
       ·exact absurd (mbit_listed pc.cl hjs hjl hx) hnl
       ·have:=bk i j hjs hilt hx;omega
       ·rw [hb]at hx;cases hx.1
       ·rw [hb]at hx;cases hx.1
       ·rcases hx.2 with hx2|hx2
        ·rw [hrd]at hx2;cases hx2
        ·obtain⟨bj,vj,hwj,hpj,k1,k2,_⟩:=tc.step j oj hj
         obtain⟨d,hd⟩:=tc.rdst i o ho hrd
         have:=k2 i hx2 (by omega) o d ho hd hw
         have hdi:dstOf ops i=some d:=by simp [dstOf,ho,hd]
         have hvj:(st (j+1)).1 d=v:=by
          rw [←hvd d hd,tc.fdst hdi (i:=j+1) (by omega) (by omega),tc.fdst hdi (i:=ops.size) hilt (Nat.le_refl _)]
         rw [hvj]at this
         exact T0_le this
      ·have e:(st m).2=(st i).2:=tc.between h hinv.le (fun j oj h3 h4 hj=>by
        cases hbj:heapB oj.op with
        |false=>rfl
        |true=>exact absurd ⟨j,oj,h3,h4,hj,hbj⟩ hex)
       rw [e];exact hop
   rw [←lop_congr hev]at hnow
   exact lop_ok hT hout.rel hfr hnow _ _ (fun ι' v' w' ho2 hvr=>quiet hb v' w' ι' ho2 hvr)
theorem chain_any {H H':LH} {fr fr':Fr} {ι:Ren} {w:World} {a:Act} (hT:TOk P T) (hB:mixC ops prs=true) (h:lchain P T N ops prs 0 (fun _=>(fr,H)) ops.toList fr H=some (fr',H')) (hrel:Rel P H ι w) (hfr:FrR H.D ι N fr a.tmps) {Q:Exit→Act→World→Prop}
  (hQ: ∀ι' a' w',Out P H ι w H' ι' w'→FrR H'.D ι' N fr' a'.tmps→a'.defers=a.defers→Q .normal a' w'):wpAny P .any ops Q ops.size (Array.replicate ops.size false) a { w with drawn:=w.drawn+1 } :=by
 obtain⟨st,_,s0,s1,s2⟩:=trace_c ops.toList 0 _ fr H (by simp) (Nat.zero_le _) h
 have tc:=mixC_spec hB (fun i o ho=>s2 i (Nat.zero_le _) o ho)
 have hw:Change (fun _=>False) w { w with drawn:=w.drawn+1 } :=⟨rfl,rfl,rfl,Nat.le_refl _,fun _ _ _=>rfl⟩
 have hout0:=out_change hrel hw
 refine wpAny_inv (Inv:=PC P N ops st H ι w a) (fun listed a' w' pc i hi=>pc_step hT hrel tc pc hi) ?_ _ _ _ _ ?_ ?_
 ·rintro listed a' w' ⟨hsz,hcl,⟨m,ι',hinv,hfirst⟩,hd⟩ hr
  have all: ∀n j,j<n→j<ops.size→LS listed j:=by
   intro n
   induction n with
   |zero=>intro j hj;omega
   |succ n ih=>
    intro j hjn hjs
    refine Classical.byContradiction (fun hno=>?_)
    have hf:listed.getD j true=false:=by
     rcases not_true_false (listed:=listed) (k:=j)with h1|h1
     ·exact absurd h1 hno
     ·exact h1
    have:j∈Region.ready .any ops listed:=by
     refine mem_ready.2 ⟨hf,_,Array.getElem?_eq_getElem hjs,fun e he hb=>?_⟩
     have hlt:=tc.back j _ (Array.getElem?_eq_getElem hjs) e he hb
     exact getD_tf (by rw [hsz];omega) (ih e.on (by omega) (by omega))
    rw [hr]at this
    cases this
  have hmn:m=ops.size:=by
   rcases hfirst.2.2 with h1|⟨⟨om,hom,_⟩,h1⟩
   ·exact h1
   ·exact absurd (all (m+1) m (Nat.lt_succ_self _) (Array.getElem?_eq_some_iff.1 hom).1) h1
  subst hmn
  have e2:frY ops st ops.size listed=(st ops.size).1:=by
   funext t
   unfold frY
   split
   ·rw [if_neg]
    rintro⟨j,h1,_,h3⟩
    have:=dst_lt h3
    omega
   ·rename_i hno
    exact(tc.fnone (fun j hj hd=>hno ⟨j,hj,all (j+1) j (Nat.lt_succ_self _) hj,hd⟩) (Nat.le_refl _)).symm
  have hout:=hinv.out
  have hf:=hinv.fr
  rw [s1]at hout hf
  rw [e2,s1]at hf
  exact hQ ι' a' w' hout hf hd
 ·unfold undone
  refine Nat.le_trans List.countP_le_length ?_
  simp
 ·have hno: ∀j,j<ops.size→ ¬LS (Array.replicate ops.size false) j:=fun j hj h=>by unfold LS at h;simp [hj]at h
  have hno2: ∀j,HeapAt ops j→ ¬LS (Array.replicate ops.size false) j:=fun j ⟨oj,hj,_⟩=>hno j (Array.getElem?_eq_some_iff.1 hj).1
  have e:frY ops st 0 (Array.replicate ops.size false)=fr:=by
   funext t
   unfold frY
   rw [if_neg (fun⟨j,hj,hl,_⟩=>hno j hj hl),s0]
  have hl:InvL P N ops st H ι w 0 ι (Array.replicate ops.size false) a { w with drawn:=w.drawn+1 } :=
   ⟨Nat.zero_le _,fun j hj=>by omega,fun j oj _ hj hb hl=>absurd hl (hno2 j ⟨oj,hj,hb⟩),⟨fun _=>none,fun j _ hb hl=>absurd hl (hno2 j hb),fun j k A _ _ hb _ hl=>absurd hl (hno2 j hb)⟩,by rw [s0];exact hout0,by rw [e,s0];exact hfr⟩
  obtain⟨m',ι2,k1,k2⟩:=adv tc hrel _ _ _ (Nat.le_refl _) hl
  exact⟨by simp,fun j oj hj hl=>absurd hl (hno j (Array.getElem?_eq_some_iff.1 hj).1),⟨m',ι2,k1,k2⟩,rfl⟩
end
section
variable {P:Program} {T:Callee} {p:List Nat} {ops:Array Oper} {Q:Exit→Act→World→Prop}
structure PermOk (p:List Nat) (ops:Array Oper):Prop where
 len:p.length=ops.size
 q: ∀i,i<ops.size→pidx p i<ops.size∧p.getD (pidx p i) ops.size=i
 r: ∀k,k<ops.size→p.getD k ops.size<ops.size∧pidx p (p.getD k ops.size)=k
 edge: ∀(i:Nat) (o:Oper),ops[i]?=some o→ ∀e∈o.after,e.on<ops.size
 guard: ∀(i:Nat) (o:Oper),ops[i]?=some o→ ∀g b,o.guard=some (g,b)→g<ops.size
theorem permB_spec (h:permB p ops=true):p= []∨PermOk p ops:=by
 unfold permB at h
 rw [Bool.or_eq_true]at h
 rcases h with h|h
 ·exact .inl (by simpa using h)
 ·right
  simp only [Bool.and_eq_true,beq_iff_eq]at h
  obtain⟨⟨h1,h2⟩,h3⟩:=h
  have h2:=fun i (hi:i<ops.size)=>List.all_eq_true.1 h2 i (List.mem_range.2 hi)
  simp only [Bool.and_eq_true,beq_iff_eq,decide_eq_true_eq]at h2
  have h3:=fun(i:Nat) (o:Oper) (ho:ops[i]?=some o)=>List.all_eq_true.1 h3 o (Array.mem_toList_iff.2 (Array.mem_of_getElem? ho))
  simp only [Bool.and_eq_true]at h3
  refine⟨h1,fun i hi=>⟨(h2 i hi).1.1.1,(h2 i hi).1.1.2⟩,fun k hk=>⟨(h2 k hk).1.2,(h2 k hk).2⟩,fun i o ho e he=>?_,fun i o ho g b hg=>?_⟩
  ·have:=List.all_eq_true.1 (h3 i o ho).1 e (Array.mem_toList_iff.2 he)
   simpa using this
  ·have:=(h3 i o ho).2
   rw [hg]at this
   simpa using this
theorem pnth_eq: ∀(l:List Oper) (i:Nat),i<l.length→l[i]?=some (pnth l i)
 | [],i,h=>by simp at h
 |o::l,0,_=>rfl
 |o::l,i+1,h=>by rw [List.getElem?_cons_succ];exact pnth_eq l i (by simpa using h)
theorem pmap_eq (l:List Oper): ∀is:List Nat,pmap p l is=is.map fun i=>pren p (pnth l i)
 | []=>rfl
 |i::is=>by simp only [pmap,List.map_cons,pmap_eq l is]
theorem perm_get (h:PermOk p ops) (hp:p≠ []) {i:Nat} {o:Oper} (ho:ops[i]?=some o):(⟨permL p ops.toList⟩:Array Oper)[pidx p i]?=some (pren p o):=by
 have hi:=(Array.getElem?_eq_some_iff.1 ho).1
 obtain⟨h1,h2⟩:=h.q i hi
 have e:permL p ops.toList=pmap p ops.toList p:=by
  cases p with
  |nil=>exact absurd rfl hp
  |cons a p=>rfl
 rw [e,pmap_eq]
 rw [List.getElem?_toArray,List.getElem?_map]
 have h3:p[pidx p i]?=some i:=by
  rw [List.getD_eq_getElem?_getD]at h2
  have hlt:pidx p i<p.length:=by rw [h.len];exact h1
  rw [List.getElem?_eq_getElem hlt]at h2⊢
  simpa using h2
 rw [h3]
 have h4:=pnth_eq ops.toList i (by simpa using hi)
 rw [Array.getElem?_toList,ho]at h4
 injection h4 with h4
 simp only [Option.map_some,←h4]
theorem perm_size (h:PermOk p ops) (hp:p≠ []):(⟨permL p ops.toList⟩:Array Oper).size=ops.size:=by
 have e:permL p ops.toList=pmap p ops.toList p:=by
  cases p with
  |nil=>exact absurd rfl hp
  |cons a p=>rfl
 rw [e,pmap_eq,←h.len]
 simp
theorem pren_dst (o:Oper):(pren p o).dst=o.dst:=rfl
theorem pren_wp (o:Oper) (a:Act) (w:World) (K:Act→World→Prop):(pren p o).wp P a w K Q=o.wp P a w K Q:=rfl
theorem pren_asks (o:Oper) (a:Act) (w:World):(pren p o).asks P a w=o.asks P a w:=rfl
theorem perm_yielded (h:PermOk p ops) (hp:p≠ []) {g:Nat} (hg:g<ops.size) (tmps:Array Value):yielded ⟨permL p ops.toList⟩ tmps (pidx p g)=yielded ops tmps g:=by
 unfold yielded
 rw [perm_get h hp (Array.getElem?_eq_getElem hg),Array.getElem?_eq_getElem hg]
 rfl
theorem perm_wanted (h:PermOk p ops) (hp:p≠ []) {i:Nat} {o:Oper} (ho:ops[i]?=some o) (tmps:Array Value):Region.wanted (pren p o) (yielded ⟨permL p ops.toList⟩ tmps)=Region.wanted o (yielded ops tmps):=by
 unfold Region.wanted
 have hgd:=h.guard i o ho
 have e:(pren p o).guard=preG p o.guard:=rfl
 rw [e]
 cases hg:o.guard with
 |none=>rfl
 |some x=>
  obtain⟨g,b⟩:=x
  show(yielded _ _ _==some b)=(yielded _ _ _==some b)
  rw [perm_yielded h hp (hgd g b hg)]
theorem perm_op (h:PermOk p ops) (hp:p≠ []) {i:Nat} {o:Oper} (ho:ops[i]?=some o) {K:Act→World→Prop} {a:Act} {w:World} (hw:wpOp P ⟨permL p ops.toList⟩ Q (pidx p i) K a w):wpOp P ops Q i K a w:=by
 unfold wpOp at hw⊢
 rw [perm_get h hp ho]at hw
 simp only [ho]
 simp only [perm_wanted h hp ho,pren_wp,pren_asks,pren_dst]at hw
 exact hw
theorem perm_after (o:Oper):(pren p o).after=o.after.map fun e=>⟨pidx p e.on,e.ground⟩:=rfl
theorem perm_ready (h:PermOk p ops) (hp:p≠ []) {l l':Array Bool} (hs:l.size=ops.size) (hs':l'.size=ops.size) (hl: ∀i,i<ops.size→l'.getD (pidx p i) true=l.getD i true) {i:Nat} :i<ops.size→(i∈Region.ready .any ops l↔pidx p i∈Region.ready .any ⟨permL p ops.toList⟩ l'):=by
 intro hi
 have ho:=Array.getElem?_eq_getElem hi
 have tf: ∀k,k<ops.size→(l.getD k false=true↔l'.getD (pidx p k) false=true):=fun k hk=>by
  have h1:=hl k hk
  have hk':=(h.q k hk).1
  rw [Array.getD_eq_getD_getElem?,Array.getD_eq_getD_getElem?,Array.getElem?_eq_getElem (by omega),Array.getElem?_eq_getElem (by omega)]at h1⊢
  simp only [Option.getD_some]at h1⊢
  rw [h1]
 constructor
 ·intro hr
  obtain⟨h1,o,ho,h2⟩:=mem_ready.1 hr
  refine mem_ready.2 ⟨by rw [hl i hi];exact h1,_,perm_get h hp ho,fun e he hb=>?_⟩
  rw [perm_after]at he
  obtain⟨e0,he0,rfl⟩:=Array.mem_map.1 he
  exact(tf _ (h.edge i o ho e0 he0)).1 (h2 e0 he0 hb)
 ·intro hr
  obtain⟨h1,o',ho',h2⟩:=mem_ready.1 hr
  rw [perm_get h hp ho]at ho'
  injection ho' with ho'
  subst ho'
  refine mem_ready.2 ⟨by rw [←hl i hi];exact h1,_,ho,fun e he hb=>?_⟩
  exact(tf _ (h.edge i _ ho e he)).2 (h2 ⟨pidx p e.on,e.ground⟩ (by rw [perm_after];exact Array.mem_map.2 ⟨e,he,rfl⟩) hb)
theorem perm_any (h:PermOk p ops) (hp:p≠ []): ∀(fuel:Nat) (l l':Array Bool) (a:Act) (w:World),l.size=ops.size→l'.size=ops.size→(∀i,i<ops.size→l'.getD (pidx p i) true=l.getD i true)→wpAny P .any ⟨permL p ops.toList⟩ Q fuel l' a w→wpAny P .any ops Q fuel l a w:=by
 have nil: ∀l l':Array Bool,l.size=ops.size→l'.size=ops.size→(∀i,i<ops.size→l'.getD (pidx p i) true=l.getD i true)→(Region.ready .any ops l= []↔Region.ready .any ⟨permL p ops.toList⟩ l'= []):=by
  intro l l' hs hs' hl
  rw [List.eq_nil_iff_forall_not_mem,List.eq_nil_iff_forall_not_mem]
  constructor
  ·intro hn k hk
   have hk1:=(ready_lt hk).1
   rw [perm_size h hp]at hk1
   obtain⟨h1,h2⟩:=h.r k hk1
   refine hn _ ((perm_ready h hp hs hs' hl h1).2 ?_)
   rw [h2];exact hk
  ·intro hn i hi
   exact hn _ ((perm_ready h hp hs hs' hl (ready_lt hi).1).1 hi)
 intro fuel
 induction fuel with
 |zero=>intro l l' a w hs hs' hl hw;exact⟨(nil l l' hs hs' hl).2 hw.1,hw.2⟩
 |succ fuel ih=>
  intro l l' a w hs hs' hl hw
  refine⟨fun hn=>hw.1 ((nil l l' hs hs' hl).1 hn),fun i hi=>?_⟩
  have hi1:=(ready_lt hi).1
  refine wpOp_mono (fun a' w' h'=>ih _ _ a' w' (by simpa using hs) (by simpa using hs') (fun k hk=>?_) h') (perm_op h hp (Array.getElem?_eq_getElem hi1) (hw.2 _ ((perm_ready h hp hs hs' hl hi1).1 hi)))
  by_cases e:i=k
  ·subst e;rw [getD_set_self,getD_set_self]
  ·have e2:pidx p i≠pidx p k:=fun e3=>e (by rw [←(h.q i hi1).2,e3,(h.q k hk).2])
   rw [getD_set_ne true e,getD_set_ne true e2]
   exact hl k hk
theorem chain_anyP [Cvt] {prs:List (Nat×Nat)} {N:Nat} {H H':LH} {fr fr':Fr} {ι:Ren} {w:World} {a:Act} (hT:TOk P T) (hp:permB p ops=true) (hB:mixC ⟨permL p ops.toList⟩ prs=true) (h:lchain P T N ⟨permL p ops.toList⟩ prs 0 (fun _=>(fr,H)) (permL p ops.toList) fr H=some (fr',H')) (hrel:Rel P H ι w) (hfr:FrR H.D ι N fr a.tmps)
  (hQ: ∀ι' a' w',Out P H ι w H' ι' w'→FrR H'.D ι' N fr' a'.tmps→a'.defers=a.defers→Q .normal a' w'):wpAny P .any ops Q ops.size (Array.replicate ops.size false) a { w with drawn:=w.drawn+1 } :=by
 rcases permB_spec hp with rfl|ho
 ·exact chain_any hT hB h hrel hfr hQ
 ·by_cases hn:p= []
  ·subst hn;exact chain_any hT hB h hrel hfr hQ
  ·have h1:=chain_any (Q:=Q) hT hB h hrel hfr hQ
   rw [perm_size ho hn]at h1
   exact perm_any ho hn _ _ _ _ _ (by simp) (by simp) (fun i hi=>by simp [hi,(ho.q i hi).1]) h1
theorem chain_okP [Cvt] {prs:List (Nat×Nat)} {N:Nat} {H H':LH} {fr fr':Fr} {ι:Ren} {w:World} {a:Act} (hT:TOk P T) (hm:P.follows .mixedOrders=true) (hp:permB p ops=true) (hB:mixC ⟨permL p ops.toList⟩ prs=true) (h:lchain P T N ⟨permL p ops.toList⟩ prs 0 (fun _=>(fr,H)) (permL p ops.toList) fr H=some (fr',H')) (hrel:Rel P H ι w) (hfr:FrR H.D ι N fr a.tmps) (id:Nat)
  (hQ: ∀ι' a' w',Out P H ι w H' ι' w'→FrR H'.D ι' N fr' a'.tmps→a'.defers=a.defers→Q .normal a' w'):(Code.region id ops true).wp P Q a w:=
 wp_region_any hm (chain_anyP hT hp hB h hrel hfr hQ)
end
def itemOk (L:Loud) (N:Nat):Item→Bool
 |.code c=>codeOk L N c
 |.inLoop c=>codeOk L N c
 |_=>true
theorem exit_ok {L:Loud} {N id:Nat} : ∀ {k k':List Item},exitTo id k=some k'→(∀x∈k,itemOk L N x=true)→ ∀x∈k',itemOk L N x=true
 | [],k',h,_=>by simp [exitTo]at h
 |y::k,k',h,hk=>by
  have ih:=@exit_ok L N id k k'
  have hk2: ∀x∈k,itemOk L N x=true:=fun x hx=>hk x (List.mem_cons_of_mem _ hx)
  unfold exitTo at h
  split at h
  ·rename_i e
   injection e with e1 e2
   subst e2
   split at h
   ·injection h with h;subst h;exact hk2
   ·exact ih h hk2
  ·rename_i e
   injection e with e1 e2
   subst e2
   exact ih h hk2
  ·rename_i e;cases e
section
variable {P:Program} {L:Loud} {T:Callee} {H H':LH} {ι:Ren} {a:Act} {w:World} {v v':Value} {fr fr':Fr} {fn:Func}
theorem result_ok (hrel:Rel P H ι w) {N:Nat} (hfr:FrR H.D ι N fr a.tmps) {r:ResultVar} (h:lresult P fr H r=some v):
  ∃v',(match r with|.tmp t=>pure (a.tmps.getD t undef)|.cell x t=>do loadVar t (←asAddr (a.tmps.getD x undef)):Sem Value).run P w=.ok v' w∧VR H.D ι v v':=by
 cases r with
 |tmp t=>
  simp only [lresult,Option.some.injEq]at h
  subst h
  exact⟨_,rfl,hfr.2 t⟩
 |cell x t=>
  simp only [lresult]at h
  split at h
  ·rename_i l off e
   have h1:=hfr.2 x
   rw [e]at h1
   obtain⟨⟨_,h0⟩,h2⟩:=vr_ptr h1
   obtain⟨v',hr,hv⟩:=load_sound hrel h0 h
   refine⟨v',?_,hv⟩
   show(do loadVar t (←asAddr (a.tmps.getD x undef)):Sem Value).run P w=_
   rw [h2]
   simp only [Sem.run_bind,asAddr,Sem.run_pure,Result.andThen_ok,hr w rfl]
  ·cases h
theorem results_list (hrel:Rel P H ι w) {N:Nat} (hfr:FrR H.D ι N fr a.tmps) (f:ResultVar→Sem Value) (hf1: ∀t,f (.tmp t)=pure (a.tmps.getD t undef)) (hf2: ∀x t,f (.cell x t)=do loadVar t (←asAddr (a.tmps.getD x undef))): ∀(rs:List ResultVar) (vs:List Value),rs.mapM (lresult P fr H)=some vs→
  ∃us:List Value,(rs.mapM f).run P w=.ok us w∧vs.length=us.length∧
   ∀(i:Nat) (x y:Value),vs[i]?=some x→us[i]?=some y→VR H.D ι x y
 | [],vs,h=>by
  simp only [List.mapM_nil,Option.pure_def,Option.some.injEq]at h
  subst h
  exact⟨[],rfl,rfl,fun i x y hx=>by simp at hx⟩
 |r::rs,vs,h=>by
  simp only [List.mapM_cons,Option.bind_eq_bind,Option.pure_def]at h
  cases h1:lresult P fr H r with
  |none=>simp [h1]at h
  |some u=>
   simp only [h1,Option.bind_some]at h
   cases h2:rs.mapM (lresult P fr H)with
   |none=>simp [h2]at h
   |some us=>
    simp only [h2,Option.bind_some,Option.some.injEq]at h
    subst h
    obtain⟨u',hr,hv⟩:=result_ok hrel hfr h1
    obtain⟨us',hrs,hl,hvs⟩:=results_list hrel hfr f hf1 hf2 rs us h2
    have hr:(f r).run P w=.ok u' w:=by cases r<;>simpa only [hf1,hf2]using hr
    refine⟨u'::us',?_,by simp [hl],fun i x y hx hy=>?_⟩
    ·rw [List.mapM_cons,Sem.run_bind,hr]
     simp only [Result.andThen_ok,Sem.run_bind,hrs,Sem.run_pure]
    ·cases i with
     |zero=>simp at hx hy;subst hx hy;exact hv
     |succ i=>exact hvs i x y (by simpa using hx) (by simpa using hy)
theorem results_ok (hrel:Rel P H ι w) {N:Nat} (hfr:FrR H.D ι N fr a.tmps) (h:lresults P fn fr H=some v): ∃v',(results fn a.tmps).run P w=.ok v' w∧VR H.D ι v v':=by
 unfold lresults at h
 cases hm:fn.results.toList.mapM (lresult P fr H)with
 |none=>rw [hm]at h;cases h
 |some vs=>
  have key:=fun f hf1 hf2=>results_list hrel hfr f hf1 hf2 fn.results.toList vs hm
  have hex: ∃us:List Value,(results fn a.tmps).run P w=.ok (if h:us.toArray.size=1 then us.toArray[0]else .tuple us.toArray) w∧vs.length=us.length∧ ∀(i:Nat) (x y:Value),vs[i]?=some x→us[i]?=some y→VR H.D ι x y:=by
   unfold results
   rw [Array.mapM_eq_mapM_toList]
   simp only [Sem.run_bind,map_eq_pure_bind]
   generalize hF:(fun(x:ResultVar)=>_)=F
   obtain⟨us,hr,hl,hv⟩:=key F (fun t=>by rw [←hF]) (fun x t=>by rw [←hF])
   refine⟨us,?_,hl,hv⟩
   rw [hr]
   simp only [Result.andThen_ok,Sem.run_pure]
  obtain⟨us,hrun,hl,hv⟩:=hex
  rw [hm]at h
  match vs,us,hl,h,hv,hrun with
  | [x],[y],_,h,hv,hrun=>
   simp only [Option.some.injEq]at h
   subst h
   exact⟨y,hrun,hv 0 x y rfl rfl⟩
  | [],[],_,h,hv,hrun=>
   simp only [Option.some.injEq]at h
   subst h
   exact⟨_,hrun,.flat _ rfl⟩
  |x::x2::xs,y::y2::ys,hl,h,hv,hrun=>
   simp only [Option.some.injEq]at h
   subst h
   refine⟨_,hrun,?_⟩
   rw [dif_neg (by simp)]
   exact .tuple _ _ (by simpa using hl) (fun i p q hp hq=>hv i p q (by simpa using hp) (by simpa using hq))
theorem run_ok (hT:TOk P T) (hm:P.follows .mixedOrders=true): ∀(n:Nat) (todo:List Item) (fr:Fr) (H:LH) (ι:Ren) (a:Act) (w:World),run P L T fn n todo fr H=some (v,H')→(∀x∈todo,itemOk L fn.ntmps x=true)→
  Rel P H ι w→FrR H.D ι fn.ntmps fr a.tmps→a.defers= []→ ∀(b:Frame) (cs:List Frame),∃(a':Act) (todo':List Item) (w':World) (ι':Ren) (v':Value),
   Steps P (lone (b.at a todo) cs w) (lone { b.at a' todo' with mode:=.returning } cs w')∧a'.defers= []∧(results fn a'.tmps).run P w'=.ok v' w'∧Out P H ι w H' ι' w'∧VR H'.D ι' v v':=by
 intro n
 induction n with
 |zero=>intro todo fr H ι a w h;simp [run]at h
 |succ n ih=>
  intro todo fr H ι a w h hit hrel hfr hd b cs
  have fin: ∀k,(lresults P fn fr H).map (fun v=>(v,H))=some (v,H')→Steps P (lone (b.at a todo) cs w) (lone { b.at a k with mode:=.returning } cs w)→ ∃(a':Act) (todo':List Item) (w':World) (ι':Ren) (v':Value),
    Steps P (lone (b.at a todo) cs w) (lone { b.at a' todo' with mode:=.returning } cs w')∧a'.defers= []∧(results fn a'.tmps).run P w'=.ok v' w'∧Out P H ι w H' ι' w'∧VR H'.D ι' v v':=by
   intro k hk hs
   simp only [Option.map_eq_some_iff,Prod.mk.injEq]at hk
   obtain⟨u,hu,rfl,rfl⟩:=hk
   obtain⟨v',hr,hv⟩:=results_ok hrel hfr hu
   exact⟨a,k,w,ι,v',hs,hd,hr,Out.refl hrel,hv⟩
  have go: ∀todo1,run P L T fn n todo1 fr H=some (v,H')→(∀x∈todo1,itemOk L fn.ntmps x=true)→step P (lone (b.at a todo) cs w)=.next (lone (b.at a todo1) cs w)→ ∃(a':Act) (todo':List Item) (w':World) (ι':Ren) (v':Value),
    Steps P (lone (b.at a todo) cs w) (lone { b.at a' todo' with mode:=.returning } cs w')∧a'.defers= []∧(results fn a'.tmps).run P w'=.ok v' w'∧Out P H ι w H' ι' w'∧VR H'.D ι' v v':=by
   intro todo1 h1 hi1 hs
   obtain⟨a',t',w',ι',v',g1,g2⟩:=ih todo1 fr H ι a w h1 hi1 hrel hfr hd b cs
   exact⟨a',t',w',ι',v',.head hs g1,g2⟩
  cases todo with
  |nil=>exact fin [] (by simpa only [run]using h) (.one step_end)
  |cons it k=>
   have hk: ∀x∈k,itemOk L fn.ntmps x=true:=fun x hx=>hit x (List.mem_cons_of_mem _ hx)
   have hx:=hit it (List.mem_cons_self ..)
   cases it with
   |inBlock id=>exact go k (by simpa only [run]using h) hk step_inBlock
   |inLoop c=>exact go (.code c::.inLoop c::k) (by simpa only [run]using h) (fun z hz=>by
     rcases List.mem_cons.1 hz with rfl|hz
     ·exact hx
     ·rcases List.mem_cons.1 hz with rfl|hz
      ·exact hx
      ·exact hk z hz) step_inLoop
   |code c=>
    cases c with
    |skip=>exact go k (by simpa only [run]using h) hk step_skip
    |label l=>exact go k (by simpa only [run]using h) hk step_label
    |seq x y=>
     simp only [itemOk,codeOk,Bool.and_eq_true]at hx
     exact go (.code x::.code y::k) (by simpa only [run]using h) (fun z hz=>by
      rcases List.mem_cons.1 hz with rfl|hz
      ·exact hx.1
      ·rcases List.mem_cons.1 hz with rfl|hz
       ·exact hx.2
       ·exact hk z hz) step_seq
    |block id c=>exact go (.code c::.inBlock id::k) (by simpa only [run]using h) (fun z hz=>by
      rcases List.mem_cons.1 hz with rfl|hz
      ·exact hx
      ·rcases List.mem_cons.1 hz with rfl|hz
       ·rfl
       ·exact hk z hz) step_block
    |loop c=>exact go (.code c::.inLoop c::k) (by simpa only [run]using h) (fun z hz=>by
      rcases List.mem_cons.1 hz with rfl|hz
      ·exact hx
      ·rcases List.mem_cons.1 hz with rfl|hz
       ·exact hx
       ·exact hk z hz) step_loop
    |ret=>exact fin (.code .ret::k) (by simpa only [run]using h) (.one step_ret)
    |exit id=>
     simp only [run]at h
     cases hx2:exitTo id k with
     |none=>simp [hx2]at h
     |some k'=>
      simp only [hx2]at h
      exact go k' h (exit_ok hx2 hk) (step_exit hx2)
    |cond c x y=>
     simp only [itemOk,codeOk,Bool.and_eq_true]at hx
     simp only [run]at h
     have hc:=hfr.ev c
     cases he:ev fr c with
     |bool t=>
      rw [he]at hc
      have hc':=vr_bool hc
      simp only [he]at h
      refine go (.code (if t then x else y)::k) ?_ (fun z hz=>?_) (step_cond hc')
      ·cases t<;>simpa using h
      ·rcases List.mem_cons.1 hz with rfl|hz
       ·cases t
        ·exact hx.2
        ·exact hx.1
       ·exact hk z hz
     |_=>simp [he]at h
    |region id ops draw=>
     have reg: ∀H1 fr1,run P L T fn n k fr1 H1=some (v,H')→(Code.region id ops draw).wp P (fun e a' w'=>e=.normal∧ ∃ι',Out P H ι w H1 ι' w'∧FrR H1.D ι' fn.ntmps fr1 a'.tmps∧a'.defers=a.defers) a w→ ∃(a':Act) (todo':List Item) (w':World) (ι':Ren) (v':Value),
       Steps P (lone (b.at a (.code (.region id ops draw)::k)) cs w) (lone { b.at a' todo' with mode:=.returning } cs w')∧a'.defers= []∧(results fn a'.tmps).run P w'=.ok v' w'∧Out P H ι w H' ι' w'∧VR H'.D ι' v v':=by
      intro H1 fr1 h1 hwp
      obtain⟨e,a1,w1,⟨rfl,ι1,ho1,hf1,hd1⟩,harr⟩:=hwp b k cs
      obtain⟨a',t',w',ι',v',g1,g2,g3,g4,g5⟩:=ih k fr1 H1 ι1 a1 w1 h1 hk ho1.rel hf1 (by rw [hd1,hd]) b cs
      exact⟨a',t',w',ι',v',Steps.trans harr g1,g2,g3,ho1.trans g4,g5⟩
     cases draw with
     |false=>
      simp only [run]at h
      cases hl:lops none P T fn.ntmps ops ops.toList fr H with
      |none=>simp [hl]at h
      |some r=>
       obtain⟨fr1,H1⟩:=r
       simp only [hl]at h
       exact reg H1 fr1 h (wp_region_list (lops_ok hT ops.toList fr H ι a w hl hrel hfr _ (fun ι' a' w' ho hf hdd=>⟨rfl,ι',ho,hf,hdd⟩)))
     |true=>
      simp only [run]at h
      cases hl:ldraw P L T fn.ntmps id ops fr H with
      |none=>simp [hl]at h
      |some r=>
       obtain⟨fr1,H1⟩:=r
       simp only [hl]at h
       have hx':drawOk L fn.ntmps id ops=true:=hx
       unfold ldraw at hl
       unfold drawOk at hx'
       rw [Bool.and_eq_true]at hx'
       letI:Cvt:=⟨L.cv⟩
       exact reg H1 fr1 h (chain_okP hT hm hx'.1 hx'.2 hl hrel hfr id (fun ι' a' w' ho hf hdd=>⟨rfl,ι',ho,hf,hdd⟩))
    |_=>simp [run]at h
   |_=>simp [run]at h
end
abbrev Ext:=Env
def ExtOk (P:Program) (ext:Ext):Prop:= ∀f s,ext f=some s→ ∀args H v H',s args H=some (v,H')→Ran P f args H v H'
inductive LCR (P:Program) (ext:Ext):FuncId→List Value→LH→Value×LH→Prop
 |ext {f args H r s} :ext f=some s→s args H=some r→LCR P ext f args H r
 |body {f args H r fn c n} (T:Callee):ext f=none→P.funcs[f]?=some fn→fn.body=some c→args.length≤fn.ntmps∧fn.name≠ "runtime.NumGoroutine" ∧codeOk ext.loud fn.ntmps c=true→
   (∀g a H' r',T g a H'=some r'→LCR P ext g a H' r')→run P ext.loud T fn n [.code c] (enter args) H=some r→LCR P ext f args H (trunc H r)
section
variable {P:Program} {ext:Ext} {H H':LH} {ι ι':Ren} {w w':World} {v v':Value}
theorem out_trunc (hrel:Rel P H ι w) (hout:Out P H ι w H' ι' w') (hle:H.le H'):Out P H ι w H ι w':=
 ⟨⟨hrel.dom,hrel.hol,fun l b hb=>by
  have hl:=hrel.live hb
  have:=hout.rel.br l b (by rw [hle.2 l hl.1];exact hb)
  rw [hout.same l hl]at this
  exact this.back hout.same (hrel.br l b hb),hrel.sep,pin_step hrel hout.chg (fun _ hk=>.inl hk) rfl rfl⟩,Nat.le_refl _,fun _ h=>h,fun _ _=>rfl,hout.chg,fun k hk=>.inl hk,fun k hk=>.inl hk,rfl⟩
theorem trunc_ok (hrel:Rel P H ι w) (hout:Out P H ι w H' ι' w') (hv:VR H'.D ι' v v'): ∃ι2 v2,v'=v2∧Out P H ι w (trunc H (v,H')).2 ι2 w'∧VR (trunc H (v,H')).2.D ι2 (trunc H (v,H')).1 v2:=by
 unfold trunc
 split
 ·rename_i h
  refine⟨ι,v',rfl,out_trunc hrel hout h.2,?_⟩
  rw [flat_eq hv h.1]
  exact .flat _ h.1
 ·exact⟨ι',v',rfl,hout,hv⟩
theorem enter_rel {N:Nat} {args:List Value} {args':Array Value} (h1:args.length=args'.size) (h2: ∀(i:Nat) (x y:Value),args[i]?=some x→args'[i]?=some y→VR H.D ι x y) (hN:args.length≤N):
  FrR H.D ι N (enter args) (args'++Array.replicate (N-args'.size) undef):=by
 refine⟨by simp;omega,fun t=>?_⟩
 unfold enter
 rw [Array.getD_eq_getD_getElem?,Array.getElem?_append]
 by_cases ht:t<args'.size
 ·rw [if_pos ht]
  have e1:args[t]?=some (args[t]'(by omega)):=List.getElem?_eq_getElem (by omega)
  have e2:=Array.getElem?_eq_getElem ht
  rw [List.getD_eq_getElem?_getD,e1,e2]
  exact h2 t _ _ e1 e2
 ·rw [if_neg ht,List.getD_eq_getElem?_getD,List.getElem?_eq_none (by omega),Array.getElem?_replicate]
  split<;>exact .flat _ rfl
theorem LCR.ran (hext:ExtOk P ext) (hm:P.follows .mixedOrders=true) {f:FuncId} {args:List Value} {r:Value×LH} (h:LCR P ext f args H r):Ran P f args H r.1 r.2:=by
 induction h with
 |ext h1 h2=>exact hext _ _ h1 _ _ _ _ h2
 |@body f args H r fn c n T he hfn hb hN hT hr ih=>
  obtain⟨u,H1⟩:=r
  refine .inl ⟨⟨fn,hfn,by rw [hb];rfl,hN.2.1⟩,?_⟩
  intro ι w args' hrel hl hargs cs
  let b:Frame:= { (default:Frame)with fn:=f,kind:=.normal }
  have henter:Frame.enter P f args' .normal=b.at { tmps:=args'++Array.replicate (fn.ntmps-args'.size) undef,defers:= [] } [.code c]:=by
   simp [Frame.enter,Frame.at,hfn,hb,b]
  obtain⟨a',t',w',ι',v',g1,g2,g3,g4,g5⟩:=run_ok (fun g a H' v H'' h=>ih g a H' (v,H'') h) hm n [.code c] (enter args) H ι { tmps:=args'++Array.replicate (fn.ntmps-args'.size) undef,defers:= [] } w hr
   (fun x hx=>by rcases List.mem_cons.1 hx with rfl|hx;exact hN.2.2;cases hx) hrel (enter_rel hl hargs hN.1) rfl b cs
  rw [←henter]at g1
  obtain⟨ι2,v2,hv2,k1,k2⟩:=trunc_ok hrel g4 g5
  exact⟨.returned v',w',_,⟨ι2,v',rfl,k1,by rw [hv2];exact k2⟩,g1,rfl,rfl,g2,rfl,fn,hfn,g3⟩
end
def Tco (T T':Callee):Prop:= ∀f args H r r',T f args H=some r→T' f args H=some r'→r=r'
section
variable {P:Program} {T T':Callee} {fr:Fr} {H:LH} {fn:Func} {L:Loud}
theorem one_of {α:Type} {x:Option α} {r r':α} (h1:x=some r) (h2:x=some r'):r=r':=Option.some.inj (h1.symm.trans h2)
theorem lop_one (h:Tco T T') {o:Oper} {r r':Value×LH} (h1:lop P T o fr H=some r) (h2:lop P T' o fr H=some r'):r=r':=by
 obtain⟨dst,op,ty,pos,after,guard⟩:=o
 cases op with
 |call c=>
  simp only [lop]at h1 h2
  split at h1
  ·rename_i hc
   simp only [hc]at h2
   unfold lcallee at h1 h2
   split at h1
   ·rename_i hf
    simp only [hf]at h2
    exact h _ _ _ _ _ h1 h2
   ·cases h1
  ·rename_i hc
   simp only [hc]at h2
   exact one_of h1 h2
  ·cases h1
 |makeMap _ r=>cases r<;>exact one_of h1 h2
 |_=>exact one_of h1 h2
theorem lopB_one (h:Tco T T') {o:Oper} {r r':Value×LH} (h1:lopB P T o fr H=some r) (h2:lopB P T' o fr H=some r'):r=r':=by
 unfold lopB at h1 h2
 split at h1
 ·rename_i s d x ho
  simp only [ho]at h2
  split at h1
  ·rename_i u hx
   simp only [hx]at h2
   exact one_of h1 h2
  ·rename_i hx
   simp only [hx]at h2
   exact lop_one h h1 h2
 ·split at h2
  ·rename_i hne _ _ _ _ ho;exact absurd ho (hne _ _ _)
  ·exact lop_one h h1 h2
theorem lopC_one [Cvt] (h:Tco T T') {o:Oper} {r r':Value×LH} (h1:lopC P T o fr H=some r) (h2:lopC P T' o fr H=some r'):r=r':=by
 unfold lopC at h1 h2
 split at h1
 ·rename_i hc;rw [if_pos hc]at h2;exact one_of h1 h2
 ·rename_i hc;rw [if_neg hc]at h2;exact lop_one h h1 h2
theorem lopM_one (h:Tco T T') {c:Option (TypeId→TypeId→Bool)} {o:Oper} {r r':Value×LH} (h1:lopM c P T o fr H=some r) (h2:lopM c P T' o fr H=some r'):r=r':=by
 cases c with
 |none=>exact lopB_one h h1 h2
 |some cv=>exact @lopC_one P T T' fr H ⟨cv⟩ h o r r' h1 h2
theorem lops_one (h:Tco T T') {c:Option (TypeId→TypeId→Bool)} {N:Nat} {all:Array Oper} : ∀ {os:List Oper} {fr:Fr} {H:LH} {r r':Fr×LH},lops c P T N all os fr H=some r→lops c P T' N all os fr H=some r'→r=r'
 | [],fr,H,r,r',h1,h2=>one_of h1 h2
 |o::os,fr,H,r,r',h1,h2=>by
  unfold lops at h1 h2
  split at h1
  ·rename_i hw
   simp only [hw]at h2
   split at h1
   ·rename_i v H1 ho
    split at h2
    ·rename_i v' H2 ho'
     cases lopM_one h ho ho'
     split at h1
     ·rename_i hp
      simp only [hp]at h2
      exact lops_one h h1 h2
     ·cases h1
    ·cases h2
   ·cases h1
  ·rename_i hw
   simp only [hw]at h2
   split at h1
   ·rename_i hp
    simp only [hp]at h2
    exact lops_one h h1 h2
   ·cases h1
  ·cases h1
theorem lchain_one [Cvt] (h:Tco T T') {N:Nat} {all:Array Oper} {prs:List (Nat×Nat)} : ∀ {os:List Oper} {k:Nat} {old:Nat→Fr×LH} {fr:Fr} {H:LH} {r r':Fr×LH},lchain P T N all prs k old os fr H=some r→lchain P T' N all prs k old os fr H=some r'→r=r'
 | [],k,old,fr,H,r,r',h1,h2=>one_of h1 h2
 |o::os,k,old,fr,H,r,r',h1,h2=>by
  unfold lchain at h1 h2
  split at h1
  ·rename_i hw
   simp only [hw]at h2
   split at h1
   ·rename_i v H1 ho
    split at h2
    ·rename_i v' H2 ho'
     cases lopC_one h ho ho'
     split at h1
     ·rename_i hp
      simp only [hp]at h2
      split at h1
      ·rename_i hc
       rw [if_pos hc]at h2
       exact lchain_one h h1 h2
      ·cases h1
     ·cases h1
    ·cases h2
   ·cases h1
  ·rename_i hw
   simp only [hw]at h2
   split at h1
   ·rename_i hp
    simp only [hp]at h2
    split at h1
    ·rename_i hc
     rw [if_pos hc]at h2
     exact lchain_one h h1 h2
    ·cases h1
   ·cases h1
  ·cases h1
theorem run_one (h:Tco T T'): ∀ {n n':Nat} {todo:List Item} {fr:Fr} {H:LH} {r r':Value×LH},run P L T fn n todo fr H=some r→run P L T' fn n' todo fr H=some r'→r=r':=by
 intro n
 induction n with
 |zero=>intro n' todo fr H r r' h1;simp [run]at h1
 |succ n ih=>
  intro n' todo fr H r r' h1 h2
  obtain _|m:=n'
  ·simp [run]at h2
  cases todo with
  |nil=>simp only [run]at h1 h2;exact one_of h1 h2
  |cons it k=>
   cases it with
   |inBlock id=>simp only [run]at h1 h2;exact ih h1 h2
   |inLoop c=>simp only [run]at h1 h2;exact ih h1 h2
   |code c=>
    cases c with
    |skip=>simp only [run]at h1 h2;exact ih h1 h2
    |label l=>simp only [run]at h1 h2;exact ih h1 h2
    |seq x y=>simp only [run]at h1 h2;exact ih h1 h2
    |block id c=>simp only [run]at h1 h2;exact ih h1 h2
    |loop c=>simp only [run]at h1 h2;exact ih h1 h2
    |ret=>simp only [run]at h1 h2;exact one_of h1 h2
    |exit id=>
     simp only [run]at h1 h2
     split at h1
     ·rename_i hx;simp only [hx]at h2;exact ih h1 h2
     ·cases h1
    |cond c x y=>
     simp only [run]at h1 h2
     split at h1
     ·rename_i t hx
      simp only [hx]at h2
      cases t<;>exact ih h1 h2
     ·cases h1
    |region id ops draw=>
     cases draw<;>simp only [run]at h1 h2<;>split at h1
     ·rename_i hl
      split at h2
      ·rename_i hl2;cases lops_one h hl hl2;exact ih h1 h2
      ·cases h2
     ·cases h1
     ·rename_i hl
      split at h2
      ·rename_i hl2
       letI:Cvt:=⟨L.cv⟩
       cases lchain_one h hl hl2
       exact ih h1 h2
      ·cases h2
     ·cases h1
    |_=>simp [run]at h1
   |_=>simp [run]at h1
end
section
variable {P:Program} {ext:Ext}
theorem LCR.one {f:FuncId} {args:List Value} {H:LH} {r:Value×LH} (h:LCR P ext f args H r): ∀ {r':Value×LH},LCR P ext f args H r'→r=r':=by
 induction h with
 |ext h1 h2=>
  intro r' h
  cases h with
  |ext h3 h4=>rw [h1]at h3;cases h3;exact one_of h2 h4
  |body _ h3=>rw [h1]at h3;cases h3
 |body T h1 h2 h3 h4 hT h5 ih=>
  intro r' h
  cases h with
  |ext h6 _=>rw [h1]at h6;cases h6
  |body T' _ g2 g3 _ gT g5=>
   rw [h2]at g2
   cases g2
   rw [h3]at g3
   cases g3
   rw [run_one (fun f a H r r' q1 q2=>ih f a H r q1 (gT f a H r' q2)) h5 g5]
open Classical in
noncomputable def LC (P:Program) (ext:Ext):Callee:=fun f args H=>if h: ∃r,LCR P ext f args H r then some (Classical.choose h)else none
theorem LC_spec {f:FuncId} {args:List Value} {H:LH} {r:Value×LH} :LC P ext f args H=some r↔LCR P ext f args H r:=by
 unfold LC
 constructor
 ·intro h
  split at h
  ·rename_i hex
   injection h with h
   rw [←h];exact Classical.choose_spec hex
  ·cases h
 ·intro h
  rw [dif_pos ⟨r,h⟩,(Classical.choose_spec ⟨r,h⟩:LCR P ext f args H _).one h]
theorem LC_ok (hext:ExtOk P ext) (hm:P.follows .mixedOrders=true):TOk P (LC P ext):=fun f args H v H' h=>(LC_spec.1 h).ran hext hm
theorem LC_body {f:FuncId} {fn:Func} {c:Code} {args:List Value} {H:LH} {n:Nat} {r:Value×LH} (he:ext f=none) (hf:P.funcs[f]?=some fn) (hb:fn.body=some c) (hN:args.length≤fn.ntmps) (hname:fn.name≠ "runtime.NumGoroutine") (hcd:codeOk ext.loud fn.ntmps c=true)
  (hr:run P ext.loud (LC P ext) fn n [.code c] (enter args) H=some r):LC P ext f args H=some (trunc H r):=
 LC_spec.2 (.body (LC P ext) he hf hb ⟨hN,hname,hcd⟩ (fun _ _ _ _ h=>LC_spec.1 h) hr)
theorem LC_ext {f:FuncId} {s:List Value→LH→Option (Value×LH)} {args:List Value} {H:LH} {r:Value×LH} (he:ext f=some s) (hr:s args H=some r):LC P ext f args H=some r:=LC_spec.2 (.ext he hr)
end
def Runs (P:Program) (E:Ext) (fn:Func) (k:List Item) (fr:Fr) (H:LH) (Q:Value×LH→Prop):Prop:= ∃n r,run P E.loud (LC P E) fn n k fr H=some r∧Q r
abbrev KF:=Fr→LH→Prop
def LX (cm:Option (TypeId→TypeId→Bool)) (P:Program) (T:Callee) (N:Nat) (all:Array Oper) (os:List Oper) (fr:Fr) (H:LH) (K:KF):Prop:= ∃fr' H',lops cm P T N all os fr H=some (fr',H')∧K fr' H'
def CX (cv:TypeId→TypeId→Bool) (P:Program) (T:Callee) (N:Nat) (all:Array Oper) (prs:List (Nat×Nat)) (j:Nat) (old:Nat→Fr×LH) (os:List Oper) (fr:Fr) (H:LH) (K:KF):Prop:= ∃fr' H',@lchain ⟨cv⟩ P T N all prs j old os fr H=some (fr',H')∧K fr' H'
def DPm (P:Program) (L:Loud) (T:Callee) (N:Nat) (prs:List (Nat×Nat)) (l:List Oper) (fr:Fr) (H:LH) (K:KF):Prop:=CX L.cv P T N ⟨l⟩ prs 0 (fun _=>(fr,H)) l fr H K
def DX (P:Program) (L:Loud) (T:Callee) (N:Nat) (prs:List (Nat×Nat)) (p:List Nat) (l:List Oper) (fr:Fr) (H:LH) (K:KF):Prop:=DPm P L T N prs (permL p l) fr H K
def oldS (old:Nat→Fr×LH) (k:Nat) (x:Fr×LH):Nat→Fr×LH:=fun j=>if j=k then x else old j
def ckR (P:Program) (k:Nat) (op:Op) (fr:Fr) (old:Nat→Fr×LH) (v:Value):List (Nat×Nat)→Prop
 | []=>True
 |(i,j)::ps=>(i=k∧j<k→lop P T0 ⟨none,op,0,"",#[],none⟩ fr (old j).2=some (v,(old j).2))∧ckR P k op fr old v ps
def ckOp (P:Program) (all:Array Oper) (o:Option Oper) (x:Fr×LH) (fr':Fr) (H':LH):Prop:=
 match o with
 |some o=> ∀d,o.dst=some d→lwant all x.1 o=some true→lop P T0 o x.1 H'=some (fr' d,H')
 |none=>True
def ckH (P:Program) (k:Nat) (all:Array Oper) (old:Nat→Fr×LH) (fr':Fr) (H':LH):List (Nat×Nat)→Prop
 | []=>True
 |(i,j)::ps=>(j=k∧i<k→ckOp P all all[i]? (old i) fr' H')∧ckH P k all old fr' H' ps
def RSel (b:Bool) (A B:Prop):Prop:=match b with|true=>A|false=>B
theorem rsel_true {A B:Prop} :RSel true A B↔A:=Iff.rfl
theorem rsel_false {A B:Prop} :RSel false A B↔B:=Iff.rfl
def RRes (x:Option Value) (H:LH) (Q:Value×LH→Prop):Prop:=match x with|some v=>Q (v,H)|none=>False
def XS (x:Option (Value×LH)) (d N:Nat) (fr:Fr) (F:KF):Prop:=match x with|some (v,H)=>d<N∧F (upd fr d v) H|none=>False
def XS0 (x:Option (Value×LH)) (fr:Fr) (F:KF):Prop:=match x with|some (_,H)=>F fr H|none=>False
def XG (g:Option Bool) (x:Option (Value×LH)) (d N:Nat) (fr:Fr) (H:LH) (F:KF):Prop:=match g with|some true=>XS x d N fr F|some false=>d<N∧F (upd fr d undef) H|none=>False
def XC (P:Program) (x:Option (Value×LH)) (d N:Nat) (op:Op) (all:Array Oper) (prs:List (Nat×Nat)) (j:Nat) (old:Nat→Fr×LH) (fr:Fr) (F:KF):Prop:=match x with
 |some (v,H')=>d<N∧ckR P j op fr old v prs∧ckH P j all old (upd fr d v) H' prs∧F (upd fr d v) H'
 |none=>False
def XC0 (P:Program) (x:Option (Value×LH)) (op:Op) (all:Array Oper) (prs:List (Nat×Nat)) (j:Nat) (old:Nat→Fr×LH) (fr:Fr) (F:KF):Prop:=match x with
 |some (v,H')=>ckR P j op fr old v prs∧ckH P j all old fr H' prs∧F fr H'
 |none=>False
def XCG (P:Program) (g:Option Bool) (x:Option (Value×LH)) (d N:Nat) (op:Op) (all:Array Oper) (prs:List (Nat×Nat)) (j:Nat) (old:Nat→Fr×LH) (fr:Fr) (H:LH) (F:KF):Prop:=match g with
 |some true=>XC P x d N op all prs j old fr F
 |some false=>d<N∧ckH P j all old (upd fr d undef) H prs∧F (upd fr d undef) H
 |none=>False
def lopx (P:Program) (T:Callee) (op:Op) (fr:Fr) (H:LH):Option (Value×LH):=lop P T ⟨none,op,0,"",#[],none⟩ fr H
def lopxC (c:TypeId→TypeId→Bool) (P:Program) (T:Callee) (op:Op) (fr:Fr) (H:LH):Option (Value×LH):=@lopC ⟨c⟩ P T ⟨none,op,0,"",#[],none⟩ fr H
def lopxB (P:Program) (T:Callee) (op:Op) (fr:Fr) (H:LH):Option (Value×LH):=match op with
 |.convert s d x=>match lbytesM P s d (ev fr x) H with
  |some r=>some r
  |none=>lopx P T (.convert s d x) fr H
 |op=>lopx P T op fr H
def lopxM (c:Option (TypeId→TypeId→Bool)) (P:Program) (T:Callee) (op:Op) (fr:Fr) (H:LH):Option (Value×LH):=match c with
 |none=>lopxB P T op fr H
 |some cv=>lopxC cv P T op fr H
def guardx (all:Array Oper) (fr:Fr) (j:Nat) (want:Bool):Option Bool:=
 match (all[j]?).bind (·.dst)with
 |none=>some false
 |some d=>match fr d with
  |.bool b=>some (b==want)
  |v=>if flatB v then some false else none
section
variable {cv:TypeId→TypeId→Bool} {cm:Option (TypeId→TypeId→Bool)} {P:Program} {E:Ext} {fn:Func} {k:List Item} {fr:Fr} {H H' H0:LH} {Q:Value×LH→Prop} {all:Array Oper} {os:List Oper} {ty:TypeId} {pos:String} {after:Array Edge} {d N:Nat} {op:Op} {v:Value} {T:Callee} {L:Loud} {K F:KF} {prs:List (Nat×Nat)} {j:Nat} {old:Nat→Fr×LH}
theorem lopC_x (dst:Option Tmp) (g:Option (Nat×Bool)) (T:Callee):@lopC ⟨cv⟩ P T ⟨dst,op,ty,pos,after,g⟩ fr H=lopxC cv P T op fr H:=rfl
theorem lop_x (dst:Option Tmp) (g:Option (Nat×Bool)) (T:Callee):lop P T ⟨dst,op,ty,pos,after,g⟩ fr H=lopx P T op fr H:=rfl
theorem lopB_x (dst:Option Tmp) (g:Option (Nat×Bool)) (T:Callee):lopB P T ⟨dst,op,ty,pos,after,g⟩ fr H=lopxB P T op fr H:=by
 cases op<;>rfl
theorem lopM_x {c:Option (TypeId→TypeId→Bool)} (dst:Option Tmp) (g:Option (Nat×Bool)) (T:Callee):lopM c P T ⟨dst,op,ty,pos,after,g⟩ fr H=lopxM c P T op fr H:=by
 cases c with
 |none=>exact lopB_x dst g T
 |some c=>exact lopC_x dst g T
theorem ex_succ {p:Nat→Prop} (h0: ¬p 0):(∃n,p n)↔ ∃n,p (n+1):=⟨fun⟨n,h⟩=>by cases n with|zero=>exact absurd h h0|succ n=>exact⟨n,h⟩,fun⟨n,h⟩=>⟨_,h⟩⟩
theorem runs_nil:Runs P E fn [] fr H Q↔RRes (lresults P fn fr H) H Q:=by
 unfold Runs;rw [ex_succ (by simp [run])];simp only [run];unfold RRes;cases lresults P fn fr H<;>simp
theorem runs_skip:Runs P E fn (.code .skip::k) fr H Q↔Runs P E fn k fr H Q:=by
 unfold Runs;rw [ex_succ (by simp [run])];simp only [run]
theorem runs_label {l:Nat} :Runs P E fn (.code (.label l)::k) fr H Q↔Runs P E fn k fr H Q:=by
 unfold Runs;rw [ex_succ (by simp [run])];simp only [run]
theorem runs_seq {x y:Code} :Runs P E fn (.code (.seq x y)::k) fr H Q↔Runs P E fn (.code x::.code y::k) fr H Q:=by
 unfold Runs;rw [ex_succ (by simp [run])];simp only [run]
theorem runs_block {id:Nat} {x:Code} :Runs P E fn (.code (.block id x)::k) fr H Q↔Runs P E fn (.code x::.inBlock id::k) fr H Q:=by
 unfold Runs;rw [ex_succ (by simp [run])];simp only [run]
theorem runs_inBlock {id:Nat} :Runs P E fn (.inBlock id::k) fr H Q↔Runs P E fn k fr H Q:=by
 unfold Runs;rw [ex_succ (by simp [run])];simp only [run]
theorem runs_loop {x:Code} :Runs P E fn (.code (.loop x)::k) fr H Q↔Runs P E fn (.inLoop x::k) fr H Q:=by
 unfold Runs;rw [ex_succ (by simp [run])];rw [ex_succ (p:=fun n=> ∃r,run P E.loud (LC P E) fn n (.inLoop x::k) fr H=some r∧Q r) (by simp [run])];simp only [run]
theorem runs_inLoop {x:Code} :Runs P E fn (.inLoop x::k) fr H Q↔Runs P E fn (.code x::.inLoop x::k) fr H Q:=by
 unfold Runs;rw [ex_succ (by simp [run])];simp only [run]
theorem runs_ret:Runs P E fn (.code .ret::k) fr H Q↔RRes (lresults P fn fr H) H Q:=by
 unfold Runs;rw [ex_succ (by simp [run])];simp only [run];unfold RRes;cases lresults P fn fr H<;>simp
theorem runs_exit {id:Nat} :Runs P E fn (.code (.exit id)::k) fr H Q↔match exitTo id k with|some k'=>Runs P E fn k' fr H Q|none=>False:=by
 unfold Runs;rw [ex_succ (by simp [run])];simp only [run]
 cases exitTo id k<;>simp
theorem runs_cond {c:Operand} {x y:Code} {b:Bool} (h:ev fr c=.bool b):Runs P E fn (.code (.cond c x y)::k) fr H Q↔if b=true then Runs P E fn (.code x::k) fr H Q else Runs P E fn (.code y::k) fr H Q:=by
 unfold Runs;rw [ex_succ (by simp [run])];simp only [run,h]
 cases b<;>simp
theorem ex_one {a b:Type} {x:a} {y:b} {K:a→b→Prop} :(∃fr' H',(some (x,y):Option (a×b))=some (fr',H')∧K fr' H')↔K x y:=by
 constructor
 ·rintro⟨_,_,e,h⟩
  injection e with e;injection e with e1 e2;subst e1 e2;exact h
 ·exact fun h=>⟨_,_,rfl,h⟩
theorem ex_non {a b:Type} {K:a→b→Prop} :(∃fr' H',(none:Option (a×b))=some (fr',H')∧K fr' H')↔False:=by
 constructor
 ·rintro⟨_,_,e,h⟩;cases e
 ·exact False.elim
theorem runs_region {id:Nat} {l:List Oper} :Runs P E fn (.code (.region id ⟨l⟩ false)::k) fr H Q↔LX none P (LC P E) fn.ntmps ⟨l⟩ l fr H (fun fr' H'=>Runs P E fn k fr' H' Q):=by
 unfold Runs LX;rw [ex_succ (by simp [run])];simp only [run]
 cases lops none P (LC P E) fn.ntmps ⟨l⟩ l fr H with
 |none=>simp
 |some x=>
  obtain⟨a,b⟩:=x
  exact(ex_one (K:=fun fr' H'=> ∃n r,run P E.loud (LC P E) fn n k fr' H'=some r∧Q r)).symm
theorem runs_draw {id:Nat} {l:List Oper} :Runs P E fn (.code (.region id ⟨l⟩ true)::k) fr H Q↔DX P E.loud (LC P E) fn.ntmps (E.loud.ch fn.ntmps id l.length) (E.loud.pm fn.ntmps id l.length) l fr H (fun fr' H'=>Runs P E fn k fr' H' Q):=by
 unfold Runs DX DPm CX;rw [ex_succ (by simp [run])];simp only [run,ldraw,drawn]
 rw [show(⟨l⟩:Array Oper).size=l.length from rfl]
 cases @lchain ⟨E.loud.cv⟩ P (LC P E) fn.ntmps ⟨permL (E.loud.pm fn.ntmps id l.length) l⟩ (E.loud.ch fn.ntmps id l.length) 0 (fun _=>(fr,H)) (permL (E.loud.pm fn.ntmps id l.length) l) fr H with
 |none=>simp
 |some x=>
  obtain⟨a,b⟩:=x
  exact(ex_one (K:=fun fr' H'=> ∃n r,run P E.loud (LC P E) fn n k fr' H'=some r∧Q r)).symm
theorem lwant_x {j:Nat} {want:Bool} {dst:Option Tmp} :lwant all fr ⟨dst,op,ty,pos,after,some (j,want)⟩=guardx all fr j want:=rfl
theorem lwant_no {dst:Option Tmp} :lwant all fr ⟨dst,op,ty,pos,after,none⟩=some true:=rfl
theorem lchain_nil [cv:Cvt] {T:Callee} {N:Nat} {j:Nat} {old:Nat→Fr×LH} : ∀ {os:List Oper} {j:Nat} {old:Nat→Fr×LH} {fr:Fr} {H:LH},lchain P T N all [] j old os fr H=lops (some cv.cv) P T N all os fr H
 | [],j,old,fr,H=>rfl
 |o::os,j,old,fr,H=>by
  unfold lchain lops
  rw [show lopM (some cv.cv) P T o fr H=lopC P T o fr H from rfl]
  split
  ·split
   ·split
    ·rw [if_pos ⟨fun _ h=>by simp at h,fun _ h=>by simp at h⟩];exact lchain_nil (j:=j) (old:=old)
    ·rfl
   ·rfl
  ·split
   ·rw [if_pos (fun _ h=>by simp at h)];exact lchain_nil (j:=j) (old:=old)
   ·rfl
  ·rfl
theorem ckR_iff {v:Value} (dst:Option Tmp) (g:Option (Nat×Bool)): ∀ {prs:List (Nat×Nat)},ckR P j op fr old v prs↔ ∀i,(j,i)∈prs→i<j→lop P T0 ⟨dst,op,ty,pos,after,g⟩ fr (old i).2=some (v,(old i).2)
 | []=>by simp [ckR]
 |(a,b)::ps=>by
  have ih:=ckR_iff (v:=v) dst g (prs:=ps)
  unfold ckR
  rw [ih]
  simp only [lop_x]
  constructor
  ·rintro⟨h1,h2⟩ i hi hij
   rcases List.mem_cons.1 hi with e|e
   ·injection e with e1 e2
    subst e1 e2
    exact h1 ⟨rfl,hij⟩
   ·exact h2 i e hij
  ·intro h
   exact⟨fun⟨e,hb⟩=>h b (by rw [e];exact List.mem_cons_self ..) hb,fun i hi hij=>h i (List.mem_cons_of_mem _ hi) hij⟩
theorem ckH_iff {fr':Fr} : ∀ {prs:List (Nat×Nat)},ckH P j all old fr' H' prs↔ ∀i,(i,j)∈prs→i<j→ ∀oi d,all[i]?=some oi→oi.dst=some d→lwant all (old i).1 oi=some true→lop P T0 oi (old i).1 H'=some (fr' d,H')
 | []=>by simp [ckH]
 |(a,b)::ps=>by
  have ih:=ckH_iff (fr':=fr') (prs:=ps)
  unfold ckH
  rw [ih]
  constructor
  ·rintro⟨h1,h2⟩ i hi hij oi d ho hd hw
   rcases List.mem_cons.1 hi with e|e
   ·injection e with e1 e2
    subst e1 e2
    have:=h1 ⟨rfl,hij⟩
    unfold ckOp at this
    rw [ho]at this
    exact this d hd hw
   ·exact h2 i e hij oi d ho hd hw
  ·intro h
   refine⟨fun⟨e,hb⟩=>?_,fun i hi hij=>h i (List.mem_cons_of_mem _ hi) hij⟩
   unfold ckOp
   cases ho:all[a]? with
   |none=>trivial
   |some oi=>exact fun d hd hw=>h a (by rw [e];exact List.mem_cons_self ..) hb oi d ho hd hw
theorem lx_nil:LX cm P T N all [] fr H K↔K fr H:=by unfold LX;simp only [lops];exact ex_one
theorem lx_cons:LX cm P T N all (⟨some d,op,ty,pos,after,none⟩::os) fr H K↔XS (lopxM cm P T op fr H) d N fr (fun fr' H'=>LX cm P T N all os fr' H' K):=by
 unfold LX XS;simp only [lops,lwant,lopM_x]
 cases lopxM cm P T op fr H with
 |none=>exact ex_non
 |some x=>
  obtain⟨v,H1⟩:=x
  simp only [lput]
  by_cases hd:d<N
  ·simp only [hd,if_true,true_and]
  ·simp only [hd,if_false,false_and];exact ex_non
theorem lx_cons0:LX cm P T N all (⟨none,op,ty,pos,after,none⟩::os) fr H K↔XS0 (lopxM cm P T op fr H) fr (fun fr' H'=>LX cm P T N all os fr' H' K):=by
 unfold LX XS0;simp only [lops,lwant,lopM_x]
 cases lopxM cm P T op fr H with
 |none=>exact ex_non
 |some x=>obtain⟨v,H1⟩:=x;simp only [lput]
theorem lx_guard {i:Nat} {want:Bool} :LX cm P T N all (⟨some d,op,ty,pos,after,some (i,want)⟩::os) fr H K↔XG (guardx all fr i want) (lopxM cm P T op fr H) d N fr H (fun fr' H'=>LX cm P T N all os fr' H' K):=by
 unfold LX XG;simp only [lops,lwant_x,lopM_x]
 cases guardx all fr i want with
 |none=>exact ex_non
 |some b=>
  cases b with
  |true=>
   unfold XS
   simp only
   cases lopxM cm P T op fr H with
   |none=>exact ex_non
   |some x=>
    obtain⟨v,H1⟩:=x
    simp only [lput]
    by_cases hd:d<N
    ·simp only [hd,if_true,true_and]
    ·simp only [hd,if_false,false_and];exact ex_non
  |false=>
   simp only [lput]
   by_cases hd:d<N
   ·simp only [hd,if_true,true_and]
   ·simp only [hd,if_false,false_and];exact ex_non
theorem cx_none:CX cv P T N all [] j old os fr H K↔LX (some cv) P T N all os fr H K:=by unfold CX LX;rw [lchain_nil (cv:=⟨cv⟩) (j:=j) (old:=old)];exact Iff.rfl
theorem cx_nil:CX cv P T N all prs j old [] fr H K↔K fr H:=by unfold CX;simp only [lchain];exact ex_one
theorem cx_cons:CX cv P T N all prs j old (⟨some d,op,ty,pos,after,none⟩::os) fr H K↔XC P (lopxC cv P T op fr H) d N op all prs j old fr (fun fr' H'=>CX cv P T N all prs (j+1) (oldS old j (fr,H)) os fr' H' K):=by
 unfold CX XC;simp only [lchain,lwant_no]
 rw [show lopxC cv P T op fr H=@lopC ⟨cv⟩ P T ⟨some d,op,ty,pos,after,none⟩ fr H from rfl]
 cases @lopC ⟨cv⟩ P T ⟨some d,op,ty,pos,after,none⟩ fr H with
 |none=>exact ex_non
 |some x=>
  obtain⟨v,H1⟩:=x
  simp only [lput]
  by_cases hd:d<N
  ·simp only [hd,if_true,true_and]
   have e1:=ckR_iff (P:=P) (op:=op) (fr:=fr) (old:=old) (j:=j) (v:=v) (ty:=ty) (pos:=pos) (after:=after) (some d) none (prs:=prs)
   by_cases hc:ckR P j op fr old v prs∧ckH P j all old (upd fr d v) H1 prs
   ·rw [if_pos (And.intro (e1.1 hc.1) (ckH_iff.1 hc.2))]
    simp only [hc,true_and]
    exact Iff.rfl
   ·rw [if_neg (fun h=>hc (And.intro (e1.2 (And.left h)) (ckH_iff.2 (And.right h))))]
    exact⟨fun h=>(ex_non.1 h).elim,fun⟨h1,h2,_⟩=>absurd ⟨h1,h2⟩ hc⟩
  ·simp only [hd,if_false,false_and];exact ex_non
theorem cx_cons0:CX cv P T N all prs j old (⟨none,op,ty,pos,after,none⟩::os) fr H K↔XC0 P (lopxC cv P T op fr H) op all prs j old fr (fun fr' H'=>CX cv P T N all prs (j+1) (oldS old j (fr,H)) os fr' H' K):=by
 unfold CX XC0;simp only [lchain,lwant_no]
 rw [show lopxC cv P T op fr H=@lopC ⟨cv⟩ P T ⟨none,op,ty,pos,after,none⟩ fr H from rfl]
 cases @lopC ⟨cv⟩ P T ⟨none,op,ty,pos,after,none⟩ fr H with
 |none=>exact ex_non
 |some x=>
  obtain⟨v,H1⟩:=x
  simp only [lput]
  have e1:=ckR_iff (P:=P) (op:=op) (fr:=fr) (old:=old) (j:=j) (v:=v) (ty:=ty) (pos:=pos) (after:=after) none none (prs:=prs)
  by_cases hc:ckR P j op fr old v prs∧ckH P j all old fr H1 prs
  ·rw [if_pos (And.intro (e1.1 hc.1) (ckH_iff.1 hc.2))]
   simp only [hc,true_and]
   exact Iff.rfl
  ·rw [if_neg (fun h=>hc (And.intro (e1.2 (And.left h)) (ckH_iff.2 (And.right h))))]
   exact⟨fun h=>(ex_non.1 h).elim,fun⟨h1,h2,_⟩=>absurd ⟨h1,h2⟩ hc⟩
theorem cx_guard {g:Nat} {want:Bool} :CX cv P T N all prs j old (⟨some d,op,ty,pos,after,some (g,want)⟩::os) fr H K↔XCG P (guardx all fr g want) (lopxC cv P T op fr H) d N op all prs j old fr H (fun fr' H'=>CX cv P T N all prs (j+1) (oldS old j (fr,H)) os fr' H' K):=by
 unfold CX XCG;simp only [lchain,lwant_x]
 cases guardx all fr g want with
 |none=>exact ex_non
 |some b=>
  cases b with
  |true=>
   simp only [XC]
   rw [show lopxC cv P T op fr H=@lopC ⟨cv⟩ P T ⟨some d,op,ty,pos,after,some (g,want)⟩ fr H from rfl]
   cases @lopC ⟨cv⟩ P T ⟨some d,op,ty,pos,after,some (g,want)⟩ fr H with
   |none=>exact ex_non
   |some x=>
    obtain⟨v,H1⟩:=x
    simp only [lput]
    by_cases hd:d<N
    ·simp only [hd,if_true,true_and]
     have e1:=ckR_iff (P:=P) (op:=op) (fr:=fr) (old:=old) (j:=j) (v:=v) (ty:=ty) (pos:=pos) (after:=after) (some d) (some (g,want)) (prs:=prs)
     by_cases hc:ckR P j op fr old v prs∧ckH P j all old (upd fr d v) H1 prs
     ·rw [if_pos (And.intro (e1.1 hc.1) (ckH_iff.1 hc.2))]
      simp only [hc,true_and]
      exact Iff.rfl
     ·rw [if_neg (fun h=>hc (And.intro (e1.2 (And.left h)) (ckH_iff.2 (And.right h))))]
      exact⟨fun h=>(ex_non.1 h).elim,fun⟨h1,h2,_⟩=>absurd ⟨h1,h2⟩ hc⟩
    ·simp only [hd,if_false,false_and];exact ex_non
  |false=>
   simp only [lput]
   by_cases hd:d<N
   ·simp only [hd,if_true,true_and]
    by_cases hc:ckH P j all old (upd fr d undef) H prs
    ·rw [if_pos (ckH_iff.1 hc)]
     simp only [hc,true_and]
     exact Iff.rfl
    ·rw [if_neg (fun h=>hc (ckH_iff.2 h))]
     exact⟨fun h=>(ex_non.1 h).elim,fun⟨h1,_⟩=>absurd h1 hc⟩
   ·simp only [hd,if_false,false_and];exact ex_non
theorem dx_some {l:List Oper} :DX P L T N prs [] l fr H K↔CX L.cv P T N ⟨l⟩ prs 0 (fun _=>(fr,H)) l fr H K:=Iff.rfl
theorem dx_perm {a:Nat} {p:List Nat} {l:List Oper} :DX P L T N prs (a::p) l fr H K↔DPm P L T N prs (pmap (a::p) l (a::p)) fr H K:=Iff.rfl
theorem dpm_go {o:Oper} {l:List Oper} :DPm P L T N prs (o::l) fr H K↔CX L.cv P T N ⟨o::l⟩ prs 0 (fun _=>(fr,H)) (o::l) fr H K:=Iff.rfl
theorem loop_ind {St:Type} (R:St→Fr→LH→Prop) (μ:St→Nat) {x:Code} (st:St) (h:R st fr H)
  (step: ∀st fr H,R st fr H→(∀st' fr' H',μ st'<μ st→R st' fr' H'→Runs P E fn (.inLoop x::k) fr' H' Q)→Runs P E fn (.code x::.inLoop x::k) fr H Q):Runs P E fn (.code (.loop x)::k) fr H Q:=by
 have key: ∀m st fr H,μ st<m→R st fr H→Runs P E fn (.inLoop x::k) fr H Q:=by
  intro m
  induction m with
  |zero=>intro st fr H hm;omega
  |succ m ih=>
   intro st fr H hm hR
   exact runs_inLoop.2 (step st fr H hR (fun st' fr' H' hlt hR'=>ih st' fr' H' (by omega) hR'))
 exact runs_loop.2 (key (μ st+1) st fr H (Nat.lt_succ_self _) h)
def fnB (L:Loud) (fn:Func) (n:Nat) (c:Code):Bool:=Nat.ble n fn.ntmps&&decide (fn.name≠ "runtime.NumGoroutine")&&codeOk L fn.ntmps c
theorem fnB_of {L:Loud} {n:Nat} {c:Code} (h:fnB L fn n c=true):n≤fn.ntmps∧fn.name≠ "runtime.NumGoroutine" ∧codeOk L fn.ntmps c=true:=by
 simp only [fnB,Bool.and_eq_true,decide_eq_true_eq]at h
 exact⟨Nat.le_of_ble_eq_true h.1.1,h.1.2,h.2⟩
theorem LC_runs {f:FuncId} {c:Code} {args:List Value} (he:E f=none) (hf:P.funcs[f]?=some fn) (hb:fn.body=some c) (hok:fnB E.loud fn args.length c=true)
  (hr:Runs P E fn [.code c] (enter args) H Q): ∃r,LC P E f args H=some (trunc H r)∧Q r:=by
 obtain⟨n,r,hn,hq⟩:=hr
 exact⟨r,LC_body he hf hb (fnB_of hok).1 (fnB_of hok).2.1 (fnB_of hok).2.2 hn,hq⟩
theorem trunc_flat {v:Value} (hv:flatB v=true) (hle:H.le H'):trunc H (v,H')=(v,H):=by
 unfold trunc;rw [if_pos ⟨hv,hle⟩]
theorem LC_pure {f:FuncId} {c:Code} {args:List Value} {v:Value} (he:E f=none) (hf:P.funcs[f]?=some fn) (hb:fn.body=some c) (hok:fnB E.loud fn args.length c=true)
  (hv:flatB v=true) (hr:Runs P E fn [.code c] (enter args) H (fun r=>r.1=v∧H.le r.2)):LC P E f args H=some (v,H):=by
 obtain⟨⟨v',H'⟩,h,rfl,hle⟩:=LC_runs he hf hb hok hr
 rw [h,trunc_flat hv hle]
theorem le_refl:H.le H:=⟨Nat.le_refl _,fun _ _=>rfl⟩
end
inductive Res where
 |ret (v:Value)
 |pan (v:Value)
 |jump (j:Option Code)
structure YC where
 l:Nat
 fn:Func
 fr:Fr
 params:List Tmp
 assign:Code
 body:Code
abbrev PSpec:=List Value→LH→Res→LH→Prop
structure PEnv where
 E:Ext
 ps:FuncId→Bool
 pl:Loud
 px:FuncId→Option PSpec
 cat:Option FuncId
 tF:TypeId
 nd:Bool:=false
def setL (fr:Fr):List (Tmp×Value)→Fr
 | []=>fr
 |(d,v)::l=>setL (upd fr d v) l
def tok (l:Nat):Value:=.func (.yield l) #[] #[]
def LH.dead (H:LH):LH:=⟨H.n+1,H.get,H.hole,H.base,H.ng⟩
def flatR:Res→Bool
 |.ret v=>flatB v
 |.pan v=>flatB v
 |.jump _=>false
structure ItC where
 l:Nat
 m:Nat
 since:Nat
 seen:List Nat
structure St where
 pd:Option Code
 it:Option ItC
abbrev st0:St:=⟨none,none⟩
abbrev CQ0:=Res→LH→Prop
abbrev PQ:=Res→LH→St→Prop
inductive J where
 |call (f:FuncId) (args:List Value) (H:LH) (Q:CQ0)
 |run (Y:Option YC) (rd:Nat) (fn:Func) (k:List Item) (fr:Fr) (H:LH) (p:St) (Q:PQ)
 |ops (Y:Option YC) (rd:Nat) (fn:Func) (all:Array Oper) (os:List Oper) (k:List Item) (fr:Fr) (H:LH) (p:St) (Q:PQ)
def isDefer:Op→Bool
 |.defer _=>true
 |_=>false
def codeOkR (L:Loud) (N:Nat):Code→Bool
 |.region id ops true=>drawOk L N id ops&&ops.toList.all fun o=>!isDefer o.op
 |.seq a b=>codeOkR L N a&&codeOkR L N b
 |.cond _ a b=>codeOkR L N a&&codeOkR L N b
 |.block _ c=>codeOkR L N c
 |.loop c=>codeOkR L N c
 |.scope c=>codeOkR L N c
 |.rangeFunc _ _ a b=>codeOkR L N a&&codeOkR L N b
 |_=>true
def fnOk (P:Program) (E:PEnv) (f:FuncId) (fn:Func) (c:Code) (args:List Value):Prop:=P.funcs[f]?=some fn∧fn.body=some c∧args.length≤fn.ntmps∧fn.name≠ "runtime.NumGoroutine" ∧codeOkR E.pl fn.ntmps c=true
def fault0:Value:=.agg #[.int .i64 0,.int .i64 0]
def psOf (E:PEnv) (fr:Fr) (op:Op):Bool:=match op with
 |.call c=>match c.callee with
  |.value x=>match ev fr x with
   |.func (.func g) _ _=>E.ps g
   |_=>false
  |_=>false
 |_=>false
def lastB (l:List Oper) (o:Oper):Bool:=
 ((List.range l.length).all fun i=>mbit (masks (l++ [o]) []) l.length i)&&(o.after.toList.all fun e=>!Region.binds .any e||decide (e.on<l.length))&&
 l.all fun x=>(x.after.toList.all fun e=>!Region.binds .any e||decide (e.on<l.length))&&match x.guard with
  |some (g,_)=>decide (g<l.length)
  |none=>true
def ents:List Value→List (Value×Value×Nat)
 |k::v::.int .i64 s::cs=>(k,v,s.toNat)::ents cs
 |_=> []
inductive W (P:Program) (E:PEnv):J→Prop
 |lc {f args H v H' Q} :Entered P f→LC P E.E f args H=some (v,H')→Q (.ret v) H'→W P E (.call f args H Q)
 |px {f args H r H' s Q} :E.px f=some s→s args H r H'→Q r H'→W P E (.call f args H Q)
 |body {f fn c args H Q Q1} :fnOk P E f fn c args→W P E (.run none 0 fn [.code c] (enter args) H st0 Q1)→(∀r H' p',Q1 r H' p'→p'.pd=none∧Q r H')→W P E (.call f args H Q)
 |body3 {f fn c args H Q Q1} :fnOk P E f fn c args→W P E (.run none 3 fn [.code c] (enter args) H st0 Q1)→(∀r H' p',Q1 r H' p'→p'.pd=none∧Q r H')→W P E (.call f args H Q)
 |trunc {f args H Q Q1} :W P E (.call f args H Q1)→(∀r H',Q1 r H'→Q r H'∨flatR r=true∧H.le H'∧Q r H)→W P E (.call f args H Q)
 |cat {f g first caps H Q Q1} :E.cat=some f→W P E (.call g (first.toList++caps.toList) H Q1)→(∀v H',Q1 (.ret v) H'→Q (.ret (.tuple #[fault0,.bool false])) H')→
   (∀v H',Q1 (.pan v) H'→ ∃a c,v=.agg #[.int .i64 a,.int .i64 c]∧Q (.ret (.tuple #[.agg #[.int .i64 a,.int .i64 c],.bool true])) H')→(∀j H',¬Q1 (.jump j) H')→W P E (.call f [.func (.func g) first caps] H Q)
 |nil0 {Y fn fr H p v Q} :lresults P fn fr H=some v→Q (.ret v) H p→W P E (.run Y 0 fn [] fr H p Q)
 |ret0 {Y fn k fr H p v Q} :lresults P fn fr H=some v→Q (.ret v) H p→W P E (.run Y 0 fn (.code .ret::k) fr H p Q)
 |nil3 {Y fn fr H p v Q} :lresults P fn fr H=some v→Q (.ret v) H p→W P E (.run Y 3 fn [] fr H p Q)
 |ret3 {Y fn k fr H p v Q} :lresults P fn fr H=some v→Q (.ret v) H p→W P E (.run Y 3 fn (.code .ret::k) fr H p Q)
 |nil1 {fn fr H p Q} :Q (.jump none) H p→W P E (.run none 2 fn [] fr H p Q)
 |ret1 {fn k fr H p Q} :Q (.jump (some .ret)) H p→W P E (.run none 2 fn (.code .ret::k) fr H p Q)
 |exit1 {fn k fr H p id Q} :exitTo id k=none→Q (.jump (some (.exit id))) H p→W P E (.run none 2 fn (.code (.exit id)::k) fr H p Q)
 |beg {fn k fr H p Q} :W P E (.run none 2 fn k fr H p Q)→W P E (.run none 1 fn (.beginRound::k) fr H p Q)
 |skip {Y rd fn k fr H p Q} :W P E (.run Y rd fn k fr H p Q)→W P E (.run Y rd fn (.code .skip::k) fr H p Q)
 |label {Y rd fn k fr H p Q l} :W P E (.run Y rd fn k fr H p Q)→W P E (.run Y rd fn (.code (.label l)::k) fr H p Q)
 |inBlock {Y rd fn k fr H p Q l} :W P E (.run Y rd fn k fr H p Q)→W P E (.run Y rd fn (.inBlock l::k) fr H p Q)
 |inScope {Y rd fn k fr H p Q c} :W P E (.run Y rd fn k fr H p Q)→W P E (.run Y rd fn (.inScope c::k) fr H p Q)
 |seq {Y rd fn k fr H p Q a b} :W P E (.run Y rd fn (.code a::.code b::k) fr H p Q)→W P E (.run Y rd fn (.code (.seq a b)::k) fr H p Q)
 |block {Y rd fn k fr H p Q id c} :W P E (.run Y rd fn (.code c::.inBlock id::k) fr H p Q)→W P E (.run Y rd fn (.code (.block id c)::k) fr H p Q)
 |scope {Y rd fn k fr H p Q c} :W P E (.run Y rd fn (.code c::.inScope c::k) fr H p Q)→W P E (.run Y rd fn (.code (.scope c)::k) fr H p Q)
 |loop {Y rd fn k fr H p Q c} :W P E (.run Y rd fn (.code c::.inLoop c::k) fr H p Q)→W P E (.run Y rd fn (.code (.loop c)::k) fr H p Q)
 |inLoop {Y rd fn k fr H p Q c} :W P E (.run Y rd fn (.code c::.inLoop c::k) fr H p Q)→W P E (.run Y rd fn (.inLoop c::k) fr H p Q)
 |exit {Y rd fn k k' fr H p Q id} :exitTo id k=some k'→W P E (.run Y rd fn k' fr H p Q)→W P E (.run Y rd fn (.code (.exit id)::k) fr H p Q)
 |goto {Y rd fn k k' fr H p Q id} :gotoIn id k=some k'→W P E (.run Y rd fn k' fr H p Q)→W P E (.run Y rd fn (.code (.goto id)::k) fr H p Q)
 |cond {Y rd fn k fr H p Q c a b t} :ev fr c=.bool t→W P E (.run Y rd fn (.code (if t then a else b)::k) fr H p Q)→W P E (.run Y rd fn (.code (.cond c a b)::k) fr H p Q)
 |region {Y rd fn k fr H p Q id ops} :W P E (.ops Y rd fn ops ops.toList k fr H p Q)→W P E (.run Y rd fn (.code (.region id ops false)::k) fr H p Q)
 |draw {Y rd fn k fr H p Q id ops fr1 H1} :ldraw P E.pl (LC P E.E) fn.ntmps id ops fr H=some (fr1,H1)→W P E (.run Y rd fn k fr1 H1 p Q)→W P E (.run Y rd fn (.code (.region id ops true)::k) fr H p Q)
 |drawc {Y fn k fr H p Q id o prs fr1 H1} {l:List Oper} :@mixC ⟨E.pl.cv⟩ ⟨l⟩ prs=true→lastB l o=true→@lchain ⟨E.pl.cv⟩ P (LC P E.E) fn.ntmps ⟨l⟩ prs 0 (fun _=>(fr,H)) l fr H=some (fr1,H1)→
   W P E (.ops Y 3 fn ⟨l++ [o]⟩ [o] k fr1 H1 p Q)→W P E (.run Y 3 fn (.code (.region id ⟨l++ [o]⟩ true)::k) fr H p Q)
 |rangeF {Y rd fn k fr H p Q Q1 x params assign body g caps gfn gc} :ev fr x=.func (.func g) #[] caps→fnOk P E g gfn gc (tok H.n::caps.toList)→
   W P E (.run (some ⟨H.n,fn,fr,params.toList,assign,body⟩) 0 gfn [.code gc] (enter (tok H.n::caps.toList)) H.dead st0 Q1)→(∀r H1 p1,Q1 r H1 p1→ ∃v,r=.ret v)→
   (∀v H1 p1,Q1 (.ret v) H1 p1→W P E (.run Y rd fn ((p1.pd.map Item.code).toList++k) fr H1 p Q))→W P E (.run Y rd fn (.code (.rangeFunc x params assign body)::k) fr H p Q)
 |onil {Y rd fn all k fr H p Q} :W P E (.run Y rd fn k fr H p Q)→W P E (.ops Y rd fn all [] k fr H p Q)
 |oskip {Y rd fn all o os k fr fr1 H p Q} :lwant all fr o=some false→lput fn.ntmps fr o.dst undef=some fr1→W P E (.ops Y rd fn all os k fr1 H p Q)→W P E (.ops Y rd fn all (o::os) k fr H p Q)
 |oplain {Y rd fn all o os k fr fr1 H H1 p Q v} :lwant all fr o=some true→psOf E fr o.op=false→lopB P (LC P E.E) o fr H=some (v,H1)→lput fn.ntmps fr o.dst v=some fr1→W P E (.ops Y rd fn all os k fr1 H1 p Q)→W P E (.ops Y rd fn all (o::os) k fr H p Q)
 |omkf {Y rd fn all o os k fr fr1 H p Q g first caps} :lwant all fr o=some true→o.op=.makeFunc (.func g) first caps→first.size≠0→lput fn.ntmps fr o.dst (.func (.func g) (first.map (ev fr)) (caps.map (ev fr)))=some fr1→W P E (.ops Y rd fn all os k fr1 H p Q)→W P E (.ops Y rd fn all (o::os) k fr H p Q)
 |ocall {Y rd fn all o os k fr H p Q Q1 x args ts g first caps} (fr1:Value→Fr):lwant all fr o=some true→o.op=.call ⟨.value x,args,ts⟩→ev fr x=.func (.func g) first caps→E.ps g=true→W P E (.call g (first.toList++args.toList.map (ev fr)++caps.toList) H Q1)→
   (∀v H1,Q1 (.ret v) H1→lput fn.ntmps fr o.dst v=some (fr1 v))→(∀v H1,Q1 (.ret v) H1→W P E (.ops Y rd fn all os k (fr1 v) H1 p Q))→(∀v H1,Q1 (.pan v) H1→Q (.pan v) H1 p)→(∀j H1,¬Q1 (.jump j) H1)→W P E (.ops Y rd fn all (o::os) k fr H p Q)
 |oyield {yc fn all o os k fr H it Q Q1 x args ts} (fr1:Value→Fr):lwant all fr o=some true→o.op=.call ⟨.value x,args,ts⟩→ev fr x=tok yc.l→args.size=yc.params.length→(∀d∈yc.params,d<yc.fn.ntmps)→
   W P E (.run none 1 yc.fn [.code yc.assign,.beginRound,.code yc.body] (setL yc.fr (yc.params.zip (args.toList.map (ev fr)))) H st0 Q1)→(∀r H1 p1,Q1 r H1 p1→ ∃j,r=.jump j)→(∀b,lput fn.ntmps fr o.dst (.bool b)=some (fr1 (.bool b)))→
   (∀j H1 p1,Q1 (.jump j) H1 p1→W P E (.ops (some yc) 0 fn all os k (fr1 (.bool j.isNone)) H1 ⟨j,it⟩ Q))→W P E (.ops (some yc) 0 fn all (o::os) k fr H ⟨none,it⟩ Q)
 |orange {Y rd fn all o os k fr H pd it Q t m b fr1} :E.nd=true→lwant all fr o=some true→(∃x,o.op=.range t x∧ev fr x=.map (some m))→(∃kt et,P.underlying t=some (.map kt et))→H.get m=some b→lput fn.ntmps fr o.dst (.pointer (some ⟨H.n,0,none⟩))=some fr1→
   W P E (.ops Y rd fn all os k fr1 H.dead ⟨pd,some ⟨H.n,m,b.elem,[]⟩⟩ Q)→W P E (.ops Y rd fn all (o::os) k fr H ⟨pd,it⟩ Q)
 |onext {Y rd fn all o os k fr H pd Q c b} (fr1:Value→Fr):E.nd=true→lwant all fr o=some true→(∃x,o.op=.next x false∧ev fr x=.pointer (some ⟨c.l,0,none⟩))→H.get c.m=some b→b.elem=c.since→(∀e∈ents b.cells,flatB e.1=true)→(∀v,lput fn.ntmps fr o.dst v=some (fr1 v))→
   ((∀e∈ents b.cells,e.2.2∈c.seen)→W P E (.ops Y rd fn all os k (fr1 (.tuple #[.bool false])) H ⟨pd,some c⟩ Q))→
   (∀e∈ents b.cells,e.2.2∉c.seen→W P E (.ops Y rd fn all os k (fr1 (.tuple #[.bool true,e.1,e.2.1])) H ⟨pd,some ⟨c.l,c.m,c.since,c.seen++ [e.2.2]⟩⟩ Q))→W P E (.ops Y rd fn all (o::os) k fr H ⟨pd,some c⟩ Q)
 |oentry {Y rd fn all o os k fr fr1 H pd Q c b e seen} :E.nd=true→lwant all fr o=some true→(∃x,o.op=.entry x∧ev fr x=.pointer (some ⟨c.l,0,none⟩))→H.get c.m=some b→b.elem=c.since→c.seen=seen++ [e.2.2]→e∈ents b.cells→flatB e.1=true→lput fn.ntmps fr o.dst (.tuple #[e.1,e.2.1])=some fr1→
   W P E (.ops Y rd fn all os k fr1 H ⟨pd,some c⟩ Q)→W P E (.ops Y rd fn all (o::os) k fr H ⟨pd,some c⟩ Q)
inductive JR where
 |call (f:FuncId) (args:List Value) (H:LH) (r:Res) (H':LH)
 |round (fn:Func) (k:List Item) (fr:Fr) (H:LH) (j:Option Code) (H':LH)
def R (P:Program) (E:PEnv):JR→Prop
 |.call f args H r H'=>W P E (.call f args H fun r1 H1=>r1=r∧H1=H')
 |.round fn k fr H j H'=> ∃p',W P E (.run none 1 fn k fr H st0 fun r1 H1 p1=>p1=p'∧r1=.jump j∧H1=H')
section
variable {P:Program} {E:PEnv} {f g:FuncId} {args:List Value} {H H':LH} {r:Res} {v:Value} {Q Q1:CQ0}
def exactJ (P:Program) (E:PEnv):J→Prop
 |.call f args H Q=> ∃r H',Q r H'∧W P E (.call f args H fun r1 H1=>r1=r∧H1=H')
 |.run Y rd fn k fr H p Q=> ∃r H' p',Q r H' p'∧W P E (.run Y rd fn k fr H p fun r1 H1 p1=>p1=p'∧r1=r∧H1=H')
 |.ops Y rd fn all os k fr H p Q=> ∃r H' p',Q r H' p'∧W P E (.ops Y rd fn all os k fr H p fun r1 H1 p1=>p1=p'∧r1=r∧H1=H')
theorem W.exact (hE:E.nd=false) {j:J} (h:W P E j):exactJ P E j:=by
 have hno: ∀ {α:Prop},E.nd=true→α:=fun h=>by rw [hE]at h;cases h
 induction h with
 |lc h1 h2 q=>exact⟨_,_,q,.lc h1 h2 ⟨rfl,rfl⟩⟩
 |px h1 h2 q=>exact⟨_,_,q,.px h1 h2 ⟨rfl,rfl⟩⟩
 |body h1 _ hq ih=>obtain⟨r,H',p',q,h⟩:=ih;exact⟨r,H',(hq _ _ _ q).2,.body h1 h (by rintro _ _ _ ⟨rfl,h2⟩;exact⟨(hq _ _ _ q).1,h2⟩)⟩
 |body3 h1 _ hq ih=>obtain⟨r,H',p',q,h⟩:=ih;exact⟨r,H',(hq _ _ _ q).2,.body3 h1 h (by rintro _ _ _ ⟨rfl,h2⟩;exact⟨(hq _ _ _ q).1,h2⟩)⟩
 |trunc _ hq ih=>
  obtain⟨r,H',q,h⟩:=ih
  rcases hq r H' q with q|⟨h1,h2,q⟩
  ·exact⟨r,H',q,h⟩
  ·exact⟨r,_,q,.trunc h (by rintro _ _ ⟨rfl,rfl⟩;exact .inr ⟨h1,h2,rfl,rfl⟩)⟩
 |cat h1 _ q1 q2 q3 ih=>
  obtain⟨r,H',q,h⟩:=ih
  cases r with
  |ret v=>exact⟨_,H',q1 v H' q,.cat h1 h (by rintro _ _ ⟨_,rfl⟩;exact⟨rfl,rfl⟩) (by rintro _ _ ⟨e,_⟩;cases e) (by rintro _ _ ⟨e,_⟩;cases e)⟩
  |pan v=>
   obtain⟨a,c,rfl,q4⟩:=q2 v H' q
   exact⟨_,H',q4,.cat h1 h (by rintro _ _ ⟨e,_⟩;cases e) (by rintro _ _ ⟨e,rfl⟩;cases e;exact⟨a,c,rfl,rfl,rfl⟩) (by rintro _ _ ⟨e,_⟩;cases e)⟩
  |jump j=>exact absurd q (q3 j H')
 |nil0 h q=>exact⟨_,_,_,q,.nil0 h ⟨rfl,rfl,rfl⟩⟩
 |ret0 h q=>exact⟨_,_,_,q,.ret0 h ⟨rfl,rfl,rfl⟩⟩
 |nil3 h q=>exact⟨_,_,_,q,.nil3 h ⟨rfl,rfl,rfl⟩⟩
 |ret3 h q=>exact⟨_,_,_,q,.ret3 h ⟨rfl,rfl,rfl⟩⟩
 |nil1 q=>exact⟨_,_,_,q,.nil1 ⟨rfl,rfl,rfl⟩⟩
 |ret1 q=>exact⟨_,_,_,q,.ret1 ⟨rfl,rfl,rfl⟩⟩
 |exit1 h q=>exact⟨_,_,_,q,.exit1 h ⟨rfl,rfl,rfl⟩⟩
 |beg _ ih=>obtain⟨r,H',p',q,h⟩:=ih;exact⟨r,H',p',q,.beg h⟩
 |skip _ ih=>obtain⟨r,H',p',q,h⟩:=ih;exact⟨r,H',p',q,.skip h⟩
 |label _ ih=>obtain⟨r,H',p',q,h⟩:=ih;exact⟨r,H',p',q,.label h⟩
 |inBlock _ ih=>obtain⟨r,H',p',q,h⟩:=ih;exact⟨r,H',p',q,.inBlock h⟩
 |inScope _ ih=>obtain⟨r,H',p',q,h⟩:=ih;exact⟨r,H',p',q,.inScope h⟩
 |seq _ ih=>obtain⟨r,H',p',q,h⟩:=ih;exact⟨r,H',p',q,.seq h⟩
 |block _ ih=>obtain⟨r,H',p',q,h⟩:=ih;exact⟨r,H',p',q,.block h⟩
 |scope _ ih=>obtain⟨r,H',p',q,h⟩:=ih;exact⟨r,H',p',q,.scope h⟩
 |loop _ ih=>obtain⟨r,H',p',q,h⟩:=ih;exact⟨r,H',p',q,.loop h⟩
 |inLoop _ ih=>obtain⟨r,H',p',q,h⟩:=ih;exact⟨r,H',p',q,.inLoop h⟩
 |exit h1 _ ih=>obtain⟨r,H',p',q,h⟩:=ih;exact⟨r,H',p',q,.exit h1 h⟩
 |goto h1 _ ih=>obtain⟨r,H',p',q,h⟩:=ih;exact⟨r,H',p',q,.goto h1 h⟩
 |cond h1 _ ih=>obtain⟨r,H',p',q,h⟩:=ih;exact⟨r,H',p',q,.cond h1 h⟩
 |region _ ih=>obtain⟨r,H',p',q,h⟩:=ih;exact⟨r,H',p',q,.region h⟩
 |draw h1 _ ih=>obtain⟨r,H',p',q,h⟩:=ih;exact⟨r,H',p',q,.draw h1 h⟩
 |drawc h1 h2 h3 _ ih=>obtain⟨r,H',p',q,h⟩:=ih;exact⟨r,H',p',q,.drawc h1 h2 h3 h⟩
 |rangeF h1 h2 _ h3 _ ih1 ih2=>
  obtain⟨r,H',p',q,h⟩:=ih1
  obtain⟨v,rfl⟩:=h3 _ _ _ q
  obtain⟨r2,H2,p2,q2,hh⟩:=ih2 v H' p' q
  exact⟨r2,H2,p2,q2,.rangeF h1 h2 h (by rintro _ _ _ ⟨_,e,_⟩;exact⟨v,e⟩) (by rintro _ _ _ ⟨rfl,_,rfl⟩;exact hh)⟩
 |onil _ ih=>obtain⟨r,H',p',q,h⟩:=ih;exact⟨r,H',p',q,.onil h⟩
 |oskip h1 h2 _ ih=>obtain⟨r,H',p',q,h⟩:=ih;exact⟨r,H',p',q,.oskip h1 h2 h⟩
 |oplain h1 h2 h3 h4 _ ih=>obtain⟨r,H',p',q,h⟩:=ih;exact⟨r,H',p',q,.oplain h1 h2 h3 h4 h⟩
 |omkf h1 h2 h3 h4 _ ih=>obtain⟨r,H',p',q,h⟩:=ih;exact⟨r,H',p',q,.omkf h1 h2 h3 h4 h⟩
 |ocall fr1 h1 h2 h3 h4 _ h5 _ h6 h7 ih1 ih2=>
  obtain⟨r,H',q,h⟩:=ih1
  cases r with
  |ret v=>
   obtain⟨r2,H2,p2,q2,hh⟩:=ih2 v H' q
   exact⟨r2,H2,p2,q2,.ocall fr1 h1 h2 h3 h4 h (by rintro _ _ ⟨e,_⟩;cases e;exact h5 _ _ q) (by rintro _ _ ⟨e,rfl⟩;cases e;exact hh) (by rintro _ _ ⟨e,_⟩;cases e) (by rintro _ _ ⟨e,_⟩;cases e)⟩
  |pan v=>exact⟨_,_,_,h6 v H' q,.ocall fr1 h1 h2 h3 h4 h (by rintro _ _ ⟨e,_⟩;cases e) (by rintro _ _ ⟨e,_⟩;cases e) (by rintro _ _ ⟨e,rfl⟩;cases e;exact⟨rfl,rfl,rfl⟩) (by rintro _ _ ⟨e,_⟩;cases e)⟩
  |jump j=>exact absurd q (h7 j H')
 |oyield fr1 h1 h2 h3 h4 h5 _ h6 h7 _ ih1 ih2=>
  obtain⟨r,H',p',q,h⟩:=ih1
  obtain⟨j,rfl⟩:=h6 _ _ _ q
  obtain⟨r2,H2,p2,q2,hh⟩:=ih2 j H' p' q
  exact⟨r2,H2,p2,q2,.oyield fr1 h1 h2 h3 h4 h5 h (by rintro _ _ _ ⟨_,e,_⟩;exact⟨j,e⟩) h7 (by rintro _ _ _ ⟨_,e,rfl⟩;cases e;exact hh)⟩
 |orange h1=>exact hno h1
 |onext _ h1=>exact hno h1
 |oentry h1=>exact hno h1
theorem W.mono (h:W P E (.call f args H Q1)) (hq: ∀r H',Q1 r H'→Q r H'):W P E (.call f args H Q):=.trunc h fun r H' h=>.inl (hq r H' h)
theorem R.to (h:R P E (.call f args H r H')) (hq:Q r H'):W P E (.call f args H Q):=W.mono h (by rintro _ _ ⟨rfl,rfl⟩;exact hq)
theorem R.lc (h1:Entered P f) (h2:LC P E.E f args H=some (v,H')):R P E (.call f args H (.ret v) H'):=W.lc h1 h2 ⟨rfl,rfl⟩
theorem R.px {s:PSpec} (h1:E.px f=some s) (h2:s args H r H'):R P E (.call f args H r H'):=W.px h1 h2 ⟨rfl,rfl⟩
theorem R.trunc (h:R P E (.call f args H r H')) (h1:flatR r=true) (h2:H.le H'):R P E (.call f args H r H):=W.trunc h (by rintro _ _ ⟨rfl,rfl⟩;exact .inr ⟨h1,h2,rfl,rfl⟩)
theorem R.cat {first caps:Array Value} (h1:E.cat=some f) (h:R P E (.call g (first.toList++caps.toList) H (.ret v) H')):R P E (.call f [.func (.func g) first caps] H (.ret (.tuple #[fault0,.bool false])) H'):=
 W.cat h1 h (by rintro _ _ ⟨_,rfl⟩;exact⟨rfl,rfl⟩) (by rintro _ _ ⟨e,_⟩;cases e) (by rintro _ _ ⟨e,_⟩;cases e)
end
section
variable {P:Program} {H H' H1:LH} {ι ι' ι1:Ren} {w w' w1:World} {X:Option Nat} {Z Z':Nat→Prop}
structure OutX (P:Program) (X:Option Nat) (Z:Nat→Prop) (H:LH) (ι:Ren) (w:World) (H':LH) (ι':Ren) (w':World):Prop where
 rel:Rel P H' ι' w'
 n:H.n≤H'.n
 sub: ∀l,H.D l→H'.D l
 same: ∀l,H.D l→ι' l=ι l
 chg:Change (fun k=>RW H ι k∨X=some k∨Z k) w w'
 rw: ∀k,RW H' ι' k→RW H ι k∨w.heap.size≤k
 img: ∀k,Img H' ι' k→Img H ι k∨w.heap.size≤k
 ng:H'.ng=H.ng
theorem Out.x (h:Out P H ι w H' ι' w'):OutX P X Z H ι w H' ι' w':=⟨h.rel,h.n,h.sub,h.same,h.chg.mono (fun _ _ h=>.inl h),h.rw,h.img,h.ng⟩
theorem OutX.out (h:OutX P none (fun _=>False) H ι w H' ι' w'):Out P H ι w H' ι' w':=⟨h.rel,h.n,h.sub,h.same,h.chg.mono (fun k _ h=>by rcases h with h|h|h;exact h;cases h;exact h.elim),h.rw,h.img,h.ng⟩
theorem OutX.refl (h:Rel P H ι w):OutX P X Z H ι w H ι w:=(Out.refl h).x
theorem OutX.transZ (h:OutX P X Z H ι w H1 ι1 w1) (k:OutX P X Z' H1 ι1 w1 H' ι' w') (hz: ∀k,Z' k→Z k∨w.heap.size≤k):OutX P X Z H ι w H' ι' w':=
 ⟨k.rel,Nat.le_trans h.n k.n,fun l hl=>k.sub l (h.sub l hl),fun l hl=>(k.same l (h.sub l hl)).trans (h.same l hl),h.chg.trans k.chg (fun i hi=>by
   rcases hi with hi|hi|hi
   ·rcases h.rw i hi with h1|h1
    ·exact .inl (.inl h1)
    ·exact .inr h1
   ·exact .inl (.inr (.inl hi))
   ·exact(hz i hi).imp (fun h=>.inr (.inr h)) id),
  fun x hx=>by
   rcases k.rw x hx with h1|h1
   ·exact h.rw x h1
   ·exact .inr (Nat.le_trans h.chg.size h1),
  fun x hx=>by
   rcases k.img x hx with h1|h1
   ·exact h.img x h1
   ·exact .inr (Nat.le_trans h.chg.size h1),k.ng.trans h.ng⟩
theorem OutX.trans (h:OutX P X Z H ι w H1 ι1 w1) (k:OutX P X Z H1 ι1 w1 H' ι' w'):OutX P X Z H ι w H' ι' w':=h.transZ k fun _ h=>.inl h
def rowO:Obj→Bool
 |.cells _ _ _|.map _ _=>true
 |_=>false
theorem img_cells (h:Rel P H ι w) {k:Nat} (hk:Img H ι k): ∃o,w.heap[k]?=some o∧rowO o=true:=by
 obtain⟨l,b,hb,rfl⟩:=hk
 rcases h.br l b hb with⟨_,arr,t,f,hw,_⟩|⟨_,es,hw,_⟩
 ·exact⟨_,hw,rfl⟩
 ·exact⟨_,hw,rfl⟩
def nocell (o:Obj):Prop:=rowO o=false
theorem no_img (h:Rel P H ι w) {q:Nat} {o:Obj} (hq:w.heap[q]?=some o) (ho:nocell o): ¬Img H ι q:=fun hi=>by
 obtain⟨o',hw,hr⟩:=img_cells h hi
 rw [hq]at hw
 cases hw
 rw [ho]at hr;cases hr
theorem OutX.keep (h:OutX P X Z H ι w H' ι' w') (hrel:Rel P H ι w) {q:Nat} {o:Obj} (hq:w.heap[q]?=some o) (ho:nocell o) (hx:X≠some q) (hz: ¬Z q):w'.heap[q]?=some o:=by
 rw [h.chg.block q (Array.getElem?_eq_some_iff.1 hq).1 (fun hk=>?_)]
 ·exact hq
 ·rcases hk with hk|hk|hk
  ·obtain⟨l,b,hb,_,e⟩:=hk
   exact no_img hrel hq ho ⟨l,b,hb,e⟩
  ·exact hx hk
  ·exact hz hk
theorem rel_off (h:Rel P H ι w) {S:Nat→Prop} (hc:Change S w w') (hS: ∀k,S k→ ¬Img H ι k∧ ¬k<H.ng):Rel P H ι w':=by
 refine⟨h.dom,h.hol,fun l b hb=>?_,h.sep,fun g hg=>?_⟩
 ·rw [hc.block _ (h.lt hb) (fun hk=>(hS _ hk).1 ⟨l,b,hb,rfl⟩)];exact h.br l b hb
 ·obtain⟨h1,h2,h3⟩:=h.pin g hg
  exact⟨by rw [hc.block g h2 (fun hk=>(hS g hk).2 hg)];exact h1,Nat.lt_of_lt_of_le h2 hc.size,h3⟩
theorem change_put {r:Nat} {o:Obj} :Change (fun k=>k=r) w (w.putObj r o):=
 ⟨rfl,rfl,rfl,by simp,fun k _ hk=>World.putObj_heap_other hk⟩
theorem change_alloc {o:Obj} :Change (fun _=>False) w (w.alloc o):=(Change.refl _ w).alloc o
theorem outx_off (h:Rel P H ι w) {S:Nat→Prop} (hc:Change S w w') (hS: ∀k,S k→ ¬Img H ι k∧ ¬k<H.ng) (hx: ∀k,k<w.heap.size→S k→X=some k∨Z k):OutX P X Z H ι w H ι w':=
 ⟨rel_off h hc hS,Nat.le_refl _,fun _ h=>h,fun _ _=>rfl,hc.mono (fun k hk hs=>.inr (hx k hk hs)),fun _ h=>.inl h,fun _ h=>.inl h,rfl⟩
def Marks (B:Nat) (w:World):List Deferred→Prop
 | []=>True
 |d::ds=>(∃r,d= { target:=.collected r,args:=#[] } ∧B≤r∧w.heap[r]?=some (.deferred (some []))∧ ∀d'∈ds,d'≠d)∧Marks B w ds
theorem Marks.keep {B:Nat} : ∀ {ds:List Deferred},Marks B w ds→(∀r,B≤r→w.heap[r]?=some (.deferred (some []))→(∃d∈ds,d= { target:=.collected r,args:=#[] })→w'.heap[r]?=some (.deferred (some [])))→Marks B w' ds
 | [],_,_=>trivial
 |d::ds,⟨⟨r,h1,h2,h3,h4⟩,h5⟩,hk=>⟨⟨r,h1,h2,hk r h2 h3 ⟨d,List.mem_cons_self ..,h1⟩,h4⟩,h5.keep (fun r hr hw ⟨d,hd,e⟩=>hk r hr hw ⟨d,List.mem_cons_of_mem _ hd,e⟩)⟩
theorem nocell_deferred {x:Option (List Deferred)} :nocell (.deferred x):=rfl
theorem nocell_loop {x:Loop} :nocell (.loop x):=rfl
theorem nocell_iter {m:Option Nat} {s:Nat} {n:Array Nat} {c:Nat} :nocell (.mapIter m s n c):=rfl
theorem Marks.out {B:Nat} {ds:List Deferred} (h:Marks B w ds) (ho:OutX P X Z H ι w H' ι' w') (hrel:Rel P H ι w) (hx: ∀q,X=some q→ ∃rc,w.heap[q]?=some (.loop rc)) (hz: ∀q,Z q→ ∃m s n c,w.heap[q]?=some (.mapIter m s n c)):Marks B w' ds:=
 h.keep (fun r _ hr _=>ho.keep hrel hr nocell_deferred (fun e=>by
  obtain⟨rc,h2⟩:=hx r e
  rw [hr]at h2;cases h2) (fun e=>by
  obtain⟨m,s,n,c,h2⟩:=hz r e
  rw [hr]at h2;cases h2))
theorem step_mark {fr:Frame} {cs:List Frame} {r:Nat} {ds:List Deferred} (hm:fr.mode≠.run) (hd:fr.defers= { target:=.collected r,args:=#[] } ::ds) (hr:w.heap[r]?=some (.deferred (some []))):
  step P (lone fr cs w)=.next (lone { fr with defers:=ds } cs (w.putObj r (.deferred none))):=by
 refine step_lone_go ?_
 have h:=run_takeDeferred (P:=P) hr
 cases hmode:fr.mode with
 |run=>exact absurd hmode hm
 |returning=>simp [stepG,unwind,hmode,hd,Sem.runT_eq,h,GStep.bare_after]
 |panicking c=>simp [stepG,unwind,hmode,hd,Sem.runT_eq,h,GStep.bare_after]
theorem marks_steps {B:Nat} {cs:List Frame} : ∀(ds:List Deferred) (fr:Frame) (w:World),fr.mode≠.run→fr.defers=ds→Marks B w ds→ ∃w',Steps P (lone fr cs w) (lone { fr with defers:= [] } cs w')∧Change (fun k=>B≤k∧w.heap[k]?=some (.deferred (some []))) w w'
 | [],fr,w,_,hd,_=>⟨w,by rw [show({ fr with defers:= [] } :Frame)=fr by rw [←hd]];exact Steps.refl _ _,Change.refl _ _⟩
 |d::ds,fr,w,hm,hd,⟨⟨r,h1,h2,h3,h4⟩,h5⟩=>by
  subst h1
  have hs:=step_mark (P:=P) (cs:=cs) hm hd h3
  have hk:Marks B (w.putObj r (.deferred none)) ds:=h5.keep (fun r' _ hr' ⟨d,hd,e⟩=>by
   rw [World.putObj_heap_other (fun e2=>h4 d hd (by rw [e,e2]))];exact hr')
  obtain⟨w',g1,g2⟩:=marks_steps ds { fr with defers:=ds } (w.putObj r (.deferred none)) hm rfl hk
  refine⟨w',.head hs g1,?_⟩
  refine Change.trans (S:=fun k=>B≤k∧w.heap[k]?=some (.deferred (some []))) (change_put.mono (fun k _ hk=>by subst hk;exact⟨h2,h3⟩)) g2 (fun k hk=>.inl ⟨hk.1,?_⟩)
  by_cases e:k=r
  ·subst e;exact h3
  ·rw [←World.putObj_heap_other e];exact hk.2
end
section
variable {P:Program} {ops:Array Oper} {b:Frame} {a:Act} {k:List Item} {cs:List Frame} {w:World}
theorem not_defer {op:Op} (h:isDefer op=false) (c:Call):op≠.defer c:=by rintro rfl;cases h
theorem step_opR {i:Nat} {rest:List Nat} {o:Oper} {K:Act→World→Prop} {Q:List PanicEntry→World→Prop} (ho:ops[i]?=some o) (hw:Region.wanted o (yielded ops a.tmps)=true) (hnd:isDefer o.op=false)
  (h:o.wp P a w K (fun e a' w'=> ∃ch,e=.panic ch∧Q ch w')):
  (∃a' w',K a' w'∧Steps P (lone (b.atR a (.inRegion ops (i::rest)::k)) cs w) (lone (b.atR a' (.inRegion ops rest::k)) cs w'))∨
  (∃ch w',Q ch w'∧Steps P (lone (b.atR a (.inRegion ops (i::rest)::k)) cs w) (lone { b.atR a (.inRegion ops (i::rest)::k)with mode:=.panicking ch } cs w')):=by
 have hg:=stepGR_op (P:=P) (b:=b) (k:=k) (cs:=cs) (w:=w) (rest:=rest) ho hw
 rw [Oper.semAt_eq _ _ _ (not_defer hnd)]at hg
 have hfin: ∀v,(b.atR a (.inRegion ops (i::rest)::k)).finish v=b.atR (a.put o.dst v) (.inRegion ops rest::k):=by
  intro v;rw [Frame.finish_atR,ho];rfl
 simp only [Oper.wp,Oper.upon]at h
 split at h
 ·rename_i v w' hr
  refine .inl ⟨_,_,h,.one (step_lone_go ?_)⟩
  rw [hg,←hfin];simp [stepG.apply,hr]
 ·rename_i w' hr
  refine .inl ⟨_,_,h,.one (step_lone_go ?_)⟩
  rw [hg,←hfin];simp [stepG.apply,hr]
 ·rename_i d w' hr
  refine .inl ⟨_,_,h,.one (step_lone_go ?_)⟩
  have:({ b.atR a (.inRegion ops (i::rest)::k)with defers:=d::a.defers } :Frame).finish undef=
    b.atR ({ a with defers:=d::a.defers }.put o.dst undef) (.inRegion ops rest::k):=by
   have:=Frame.finish_atR b { a with defers:=d::a.defers } ops i rest k undef
   rw [ho]at this;exact this
  rw [hg];simp only [stepG.apply,Sem.runT_eq,hr,GStep.bare_after]
  exact congrArg (fun fr=>GStep.go { frame:=fr,callers:=cs,status:=.running,dying:=none } w') this
 ·rename_i f args w' hr
  obtain⟨e,w'',fr,hR,hsteps,_,hleave⟩:=h (b.atR a (.inRegion ops (i::rest)::k)::cs)
  have henter:step P (lone (b.atR a (.inRegion ops (i::rest)::k)) cs w)=
    .next (lone (Frame.enter P f args .normal) (b.atR a (.inRegion ops (i::rest)::k)::cs) w'):=
   step_lone_go (by rw [hg];simp [stepG.apply,hr,Frame.atR])
  cases e with
  |returned v=>
   refine .inl ⟨_,_,hR,.head henter (Steps.trans hsteps (.one ?_))⟩
   rw [←hfin];exact step_leave_returned hleave
  |panicked chain=>
   obtain⟨ch,e,hq⟩:=hR
   injection e with e
   subst e
   refine .inr ⟨chain,w'',hq,.head henter (Steps.trans hsteps (.one ?_))⟩
   rw [←Frame.raise_atR];exact step_leave_panicked hleave
  |outgrown=>
   obtain⟨a₀,w₀,ch,e,_⟩:=hR
   cases e
 ·rename_i row args w' hr
  obtain⟨v,w'',hR,hsteps⟩:=h (b.atR a (.inRegion ops (i::rest)::k)) cs
  have henter:step P (lone (b.atR a (.inRegion ops (i::rest)::k)) cs w)=
    .next (lone (Frame.ofRow P row args .normal) (b.atR a (.inRegion ops (i::rest)::k)::cs) w'):=
   step_lone_go (by rw [hg];simp [stepG.apply,hr,Frame.atR])
  refine .inl ⟨_,_,hR,.head henter ?_⟩
  rw [←hfin];exact hsteps
 ·rename_i v w' hr
  obtain⟨ch,e,hq⟩:=h
  injection e with e
  subst e
  refine .inr ⟨_,w',hq,.one (step_lone_go ?_)⟩
  rw [hg,←Frame.raise_atR];simp [stepG.apply,hr]
 ·exact h.elim
theorem step_opR1 {i:Nat} {rest:List Nat} {o:Oper} {K:Act→World→Prop} (ho:ops[i]?=some o) (hw:Region.wanted o (yielded ops a.tmps)=true) (hnd:isDefer o.op=false)
  (h:o.wp P a w K (fun e a' w'=> ∃ch,e=.panic ch∧False)):
  ∃a' w',K a' w'∧Steps P (lone (b.atR a (.inRegion ops (i::rest)::k)) cs w) (lone (b.atR a' (.inRegion ops rest::k)) cs w'):=by
 rcases step_opR (Q:=fun _ _=>False) (b:=b) (k:=k) (cs:=cs) (rest:=rest) ho hw hnd h with h1|⟨_,_,h1,_⟩
 ·exact h1
 ·exact h1.elim
theorem wp_opsR (hnd: ∀(i:Nat) (o:Oper),ops[i]?=some o→isDefer o.op=false) {K:Act→World→Prop} : ∀(l:List Nat) (a:Act) (w:World),wpOps P ops (fun e a w=>e=.normal∧K a w) l a w→
  ∃a' w',K a' w'∧Steps P (lone (b.atR a (.inRegion ops l::k)) cs w) (lone (b.atR a' k) cs w')
 | [],a,w,h=>⟨a,w,h.2,.one stepR_region_end⟩
 |i::rest,a,w,h=>by
  simp only [wpOps]at h
  cases ho:ops[i]? with
  |none=>
   simp only [ho]at h
   obtain⟨a',w',hq,hs⟩:=wp_opsR hnd rest a w h
   have hs1:=stepR_op_skip (P:=P) (b:=b) (a:=a) (k:=k) (cs:=cs) (w:=w) (ops:=ops) (i:=i) (rest:=rest) (by simp [ho])
   simp only [ho,Option.bind_none,Act.put]at hs1
   exact⟨a',w',hq,.head hs1 hs⟩
  |some o=>
   simp only [ho]at h
   by_cases hw:Region.wanted o (yielded ops a.tmps)=true
   ·simp only [hw,if_true]at h
    rcases h with h|⟨_,_,_,e,_⟩
    ·have h2:o.wp P a w (wpOps P ops (fun e a w=>e=.normal∧K a w) rest) (fun e a' w'=> ∃ch,e=.panic ch∧False):=by
      revert h
      unfold Oper.wp Oper.upon
      split
      ·exact id
      ·exact id
      ·exact id
      ·intro h
       refine h.mono (fun e w''=>?_)
       cases e with
       |returned v=>exact id
       |panicked ch=>intro hx;cases hx.1
       |outgrown=>rintro⟨_,_,e,_⟩;cases e
      ·exact id
      ·intro hx;cases hx.1
      ·exact id
     obtain⟨a1,w1,hk,hs1⟩:=step_opR1 (b:=b) (k:=k) (cs:=cs) (rest:=rest) ho hw (hnd i o ho) h2
     obtain⟨a',w',hq,hs⟩:=wp_opsR hnd rest a1 w1 hk
     exact⟨a',w',hq,Steps.trans hs1 hs⟩
    ·cases e
   ·simp only [hw,if_false,Bool.false_eq_true]at h
    obtain⟨a',w',hq,hs⟩:=wp_opsR hnd rest _ w h
    have hs1:=stepR_op_skip (P:=P) (b:=b) (a:=a) (k:=k) (cs:=cs) (w:=w) (ops:=ops) (i:=i) (rest:=rest)
     (by simp [ho];simpa using hw)
    simp only [ho,Option.bind_some]at hs1
    exact⟨a',w',hq,.head hs1 hs⟩
end
section
variable {P:Program} {H H' H1:LH} {ι ι' ι1:Ren} {w w' w1:World} {X:Option Nat} {Z Z':Nat→Prop}
def pe (tF:TypeId) (v:Value):PanicEntry:= { v:=.iface tF v,recovered:=false }
def ResR (tF:TypeId) (n:Nat→Prop) (ι:Ren):Res→Ending→Prop
 |.ret v,e=> ∃v',e=.returned v'∧VR n ι v v'
 |.pan v,e=> ∃v',e=.panicked [pe tF v']∧VR n ι v v'
 |.jump _,_=>False
def CallOkR (P:Program) (tF:TypeId) (f:FuncId) (args:List Value) (H:LH) (r:Res) (H':LH):Prop:=
 ∀(ι:Ren) (w:World) (args':Array Value),Rel P H ι w→args.length=args'.size→(∀(i:Nat) (x y:Value),args[i]?=some x→args'[i]?=some y→VR H.D ι x y)→
  Calls P f args' w (fun e w'=> ∃ι',ResR tF H'.D ι' r e∧Out P H ι w H' ι' w')
def CallOkW (P:Program) (tF:TypeId) (f:FuncId) (args:List Value) (H:LH) (Q:CQ0):Prop:=
 ∀(ι:Ren) (w:World) (args':Array Value),Rel P H ι w→args.length=args'.size→(∀(i:Nat) (x y:Value),args[i]?=some x→args'[i]?=some y→VR H.D ι x y)→
  Calls P f args' w (fun e w'=> ∃r H' ι',Q r H'∧ResR tF H'.D ι' r e∧Out P H ι w H' ι' w')
theorem CallOkR.up {tF:TypeId} {f:FuncId} {args:List Value} {r:Res} {Q:CQ0} (h:CallOkR P tF f args H r H') (hq:Q r H'):CallOkW P tF f args H Q:=fun ι w args' h1 h2 h3=>(h ι w args' h1 h2 h3).mono fun e w' ⟨ι',h4,h5⟩=>⟨r,H',ι',hq,h4,h5⟩
def okJ (p:Option Code):Prop:= ∀c,p=some c→ ∀L N,codeOkR L N c=true
def YAt (P:Program) (L:Loud) (Y:Option YC) (p:Option Code) (H:LH) (ι:Ren) (w:World):Prop:=
 match Y with
 |none=>p=none
 |some yc=>H.D yc.l∧(okJ p∧codeOkR L yc.fn.ntmps yc.assign=true∧codeOkR L yc.fn.ntmps yc.body=true)∧ ∃rc,w.heap[(ι yc.l).blk]?=some (.loop rc)∧rc.params.toList=yc.params∧rc.assign=yc.assign∧rc.body=yc.body∧P.funcs[rc.fn]?=some yc.fn∧FrR H.D ι yc.fn.ntmps yc.fr rc.tmps∧rc.pending=p∧rc.state=(if p.isNone then .ready else .done)
theorem YAt.out {L:Loud} {Y:Option YC} {p:Option Code} (h:YAt P L Y p H ι w) (hrel:Rel P H ι w) (ho:Out P H ι w H' ι' w'):YAt P L Y p H' ι' w':=by
 unfold YAt at h⊢
 cases Y with
 |none=>exact h
 |some yc=>
  obtain⟨h1,h0,rc,h2,h3,h4,h5,h6,h7,h8,h9⟩:=h
  refine⟨ho.sub _ h1,h0,rc,?_,h3,h4,h5,h6,h7.mono ho.sub ho.same,h8,h9⟩
  rw [ho.same _ h1]
  exact(ho.x (X:=none) (Z:=fun _=>False)).keep hrel h2 nocell_loop (by simp) (fun h=>h)
def itemOkR (L:Loud) (N:Nat):Item→Bool
 |.code c=>codeOkR L N c
 |.inLoop c=>codeOkR L N c
 |.inScope c=>codeOkR L N c
 |_=>true
structure Pre (P:Program) (E:PEnv) (Y:Option YC) (rd:Nat) (fn:Func) (k:List Item) (fr:Fr) (H:LH) (p:St) (ι:Ren) (b:Frame) (a:Act) (w:World) (cs:List Frame) (B:Nat) (X:Option Nat) (Z:Nat→Prop):Prop where
 items: ∀x∈k,itemOkR E.pl fn.ntmps x=true
 rel:Rel P H ι w
 fr:FrR H.D ι fn.ntmps fr a.tmps
 fn:P.funcs[b.fn]?=some fn
 yat:YAt P E.pl Y p.pd H ι w
 yx: ∀yc,Y=some yc→X=some (ι yc.l).blk
 xok: ∀q,X=some q→(∃rc,w.heap[q]?=some (.loop rc))∧ ¬q<H.ng
 zok: ∀q,Z q→(∃m s n c,w.heap[q]?=some (.mapIter m s n c))∧ ¬q<H.ng
 itok: ∀c,p.it=some c→Z (ι c.l).blk∧H.D c.l∧(ι c.l).off=0∧w.heap[(ι c.l).blk]?=some (.mapIter (some (ι c.m).blk) c.since c.seen.toArray c.since)∧H.D c.m∧(ι c.m).off=1
 rd0:rd=0→b.roundOf=none
 rd1:rd≠0→Y=none∧ ∃lr c cs0 rc,b.roundOf=some lr∧X=some lr∧b.kind=.normal∧cs=c::cs0∧w.heap[lr]?=some (.loop rc)∧(rd=1→rc.state=.ready)
 marks:Marks B w a.defers
 hB:B≤w.heap.size
 hng:H.ng≤B
def Post (P:Program) (L:Loud) (tF:TypeId) (Y:Option YC) (fn:Func) (p':St) (r:Res) (H':LH) (f0 b:Frame) (cs:List Frame) (ι:Ren) (H:LH) (w:World) (B:Nat) (X:Option Nat) (Z:Nat→Prop):Prop:=
 ∃ι' w',OutX P X Z H ι w H' ι' w'∧YAt P L Y p'.pd H' ι' w'∧match r with
  |.ret v=> ∃a' t' fr',Steps P (lone f0 cs w) (lone { b.atR a' t' with mode:=.returning } cs w')∧Marks B w' a'.defers∧FrR H'.D ι' fn.ntmps fr' a'.tmps∧lresults P fn fr' H'=some v
  |.pan v=> ∃a' t' v',Steps P (lone f0 cs w) (lone { b.atR a' t' with mode:=.panicking [pe tF v'] } cs w')∧Marks B w' a'.defers∧VR H'.D ι' v v'
  |.jump j=>(Y=none∧okJ j)∧ ∃lr c cs0,X=some lr∧cs=c::cs0∧Steps P (lone f0 cs w) (lone (c.finish (.bool j.isNone)) cs0 w')∧ ∀rc,w.heap[lr]?=some (.loop rc)→w'.heap[lr]?=some (.loop { rc with state:=if j.isNone then .ready else .done,pending:=j })
def rdz (rd:Nat):Nat:=if rd=3 then 0 else rd
def PostW (P:Program) (L:Loud) (tF:TypeId) (Y:Option YC) (fn:Func) (Q:PQ) (f0 b:Frame) (cs:List Frame) (ι:Ren) (H:LH) (w:World) (B:Nat) (X:Option Nat) (Z:Nat→Prop):Prop:= ∃r H' p',Q r H' p'∧Post P L tF Y fn p' r H' f0 b cs ι H w B X Z
def SoundW (P:Program) (E:PEnv):J→Prop
 |.call f args H Q=>Entered P f∧CallOkW P E.tF f args H Q
 |.run Y rd fn k fr H p Q=> ∀(ι:Ren) (b:Frame) (a:Act) (w:World) (cs:List Frame) (B:Nat) (X:Option Nat) (Z:Nat→Prop),Pre P E Y (rdz rd) fn k fr H p ι b a w cs B X Z→PostW P E.pl E.tF Y fn Q (b.atR a k) b cs ι H w B X Z
 |.ops Y rd fn all os k fr H p Q=> ∀(m:Nat) (ι:Ren) (b:Frame) (a:Act) (w:World) (cs:List Frame) (B:Nat) (X:Option Nat) (Z:Nat→Prop),os=all.toList.drop m→m≤all.size→Pre P E Y (rdz rd) fn k fr H p ι b a w cs B X Z→
   PostW P E.pl E.tF Y fn Q (b.atR a (.inRegion all (List.range' m (all.size-m))::k)) b cs ι H w B X Z
def Sound (P:Program) (E:PEnv):JR→Prop
 |.call f args H r H'=>Entered P f∧CallOkR P E.tF f args H r H'
 |_=>True
theorem post_stepZ {L:Loud} {tF:TypeId} {Y:Option YC} {fn:Func} {p':St} {r:Res} {f0 f1 b:Frame} {cs:List Frame} {B:Nat} (hs:Steps P (lone f0 cs w) (lone f1 cs w1)) (ho:OutX P X Z H ι w H1 ι1 w1)
  (hk:Y=none→ ∀q rc,X=some q→w.heap[q]?=some (.loop rc)→ ∃st,w1.heap[q]?=some (.loop { rc with state:=st })) (hz: ∀k,Z' k→Z k∨w.heap.size≤k) (h:Post P L tF Y fn p' r H' f1 b cs ι1 H1 w1 B X Z'):Post P L tF Y fn p' r H' f0 b cs ι H w B X Z:=by
 obtain⟨ι',w',h1,h2,h3⟩:=h
 refine⟨ι',w',ho.transZ h1 hz,h2,?_⟩
 cases r with
 |ret v=>obtain⟨a',t',fr',g1,g2⟩:=h3;exact⟨a',t',fr',Steps.trans hs g1,g2⟩
 |pan v=>obtain⟨a',t',v',g1,g2⟩:=h3;exact⟨a',t',v',Steps.trans hs g1,g2⟩
 |jump j=>
  obtain⟨g0,lr,c,cs0,g1,g2,g3,g4⟩:=h3
  refine⟨g0,lr,c,cs0,g1,g2,Steps.trans hs g3,fun rc hrc=>?_⟩
  obtain⟨st,hst⟩:=hk g0.1 lr rc g1 hrc
  exact g4 { rc with state:=st } hst
theorem post_step {L:Loud} {tF:TypeId} {Y:Option YC} {fn:Func} {Q:PQ} {f0 f1 b:Frame} {cs:List Frame} {B:Nat} (hs:Steps P (lone f0 cs w) (lone f1 cs w1)) (ho:OutX P X Z H ι w H1 ι1 w1)
  (hk:Y=none→ ∀q rc,X=some q→w.heap[q]?=some (.loop rc)→ ∃st,w1.heap[q]?=some (.loop { rc with state:=st })) (h:PostW P L tF Y fn Q f1 b cs ι1 H1 w1 B X Z):PostW P L tF Y fn Q f0 b cs ι H w B X Z:=by
 obtain⟨r,H',p',q,h⟩:=h
 exact⟨r,H',p',q,post_stepZ hs ho hk (fun _ h=>.inl h) h⟩
theorem Pre.xl {E:PEnv} {Y:Option YC} {rd:Nat} {fn:Func} {k:List Item} {fr:Fr} {p:St} {b:Frame} {a:Act} {cs:List Frame} {B:Nat} (h:Pre P E Y rd fn k fr H p ι b a w cs B X Z): ∀q,X=some q→ ∃rc,w.heap[q]?=some (.loop rc):=fun q hq=>(h.xok q hq).1
theorem keep_loop (hrel:Rel P H ι w) (ho:Out P H ι w H' ι' w') {q:Nat} {rc:Loop} (hq:w.heap[q]?=some (.loop rc)):w'.heap[q]?=some (.loop rc):=
 (ho.x (X:=none) (Z:=fun _=>False)).keep hrel hq nocell_loop (by simp) (fun h=>h)
theorem keep_iter (hrel:Rel P H ι w) (ho:Out P H ι w H' ι' w') {q:Nat} {m:Option Nat} {s c:Nat} {n:Array Nat} (hq:w.heap[q]?=some (.mapIter m s n c)):w'.heap[q]?=some (.mapIter m s n c):=
 (ho.x (X:=none) (Z:=fun _=>False)).keep hrel hq nocell_iter (by simp) (fun h=>h)
theorem Pre.zl {E:PEnv} {Y:Option YC} {rd:Nat} {fn:Func} {k:List Item} {fr:Fr} {p:St} {b:Frame} {a:Act} {cs:List Frame} {B:Nat} (h:Pre P E Y rd fn k fr H p ι b a w cs B X Z): ∀q,Z q→ ∃m s n c,w.heap[q]?=some (.mapIter m s n c):=fun q hq=>(h.zok q hq).1
theorem Pre.out {E:PEnv} {Y:Option YC} {rd:Nat} {fn:Func} {k k1:List Item} {fr fr1:Fr} {p:St} {b:Frame} {a a1:Act} {cs:List Frame} {B:Nat} (h:Pre P E Y rd fn k fr H p ι b a w cs B X Z) (ho:Out P H ι w H1 ι1 w1)
  (hf:FrR H1.D ι1 fn.ntmps fr1 a1.tmps) (hd:Marks B w1 a1.defers) (hi: ∀x∈k1,itemOkR E.pl fn.ntmps x=true):Pre P E Y rd fn k1 fr1 H1 p ι1 b a1 w1 cs B X Z:=by
 refine⟨hi,ho.rel,hf,h.fn,h.yat.out h.rel ho,fun yc hy=>?_,fun q hq=>?_,fun q hq=>?_,fun c hc=>?_,h.rd0,fun hr=>?_,?_,Nat.le_trans h.hB ho.chg.size,by rw [ho.ng];exact h.hng⟩
 ·have hD:H.D yc.l:=by have:=h.yat;unfold YAt at this;rw [hy]at this;exact this.1
  rw [ho.same _ hD];exact h.yx yc hy
 ·obtain⟨⟨rc,h1⟩,h2⟩:=h.xok q hq
  exact⟨⟨rc,keep_loop h.rel ho h1⟩,by rw [ho.ng];exact h2⟩
 ·obtain⟨⟨m,s,n,c,h1⟩,h2⟩:=h.zok q hq
  exact⟨⟨m,s,n,c,keep_iter h.rel ho h1⟩,by rw [ho.ng];exact h2⟩
 ·obtain⟨h1,h2,h3,h4,h5,h6⟩:=h.itok c hc
  rw [ho.same _ h2,ho.same _ h5]
  exact⟨h1,ho.sub _ h2,h3,keep_iter h.rel ho h4,ho.sub _ h5,h6⟩
 ·obtain⟨h1,lr,c,cs0,rc,h2,h3,h4,h5,h6,h7⟩:=h.rd1 hr
  exact⟨h1,lr,c,cs0,rc,h2,h3,h4,h5,keep_loop h.rel ho h6,h7⟩
 ·exact hd
theorem Pre.same {E:PEnv} {Y:Option YC} {rd:Nat} {fn:Func} {k k1:List Item} {fr:Fr} {p:St} {b:Frame} {a:Act} {cs:List Frame} {B:Nat} (h:Pre P E Y rd fn k fr H p ι b a w cs B X Z)
  (hi: ∀x∈k1,itemOkR E.pl fn.ntmps x=true):Pre P E Y rd fn k1 fr H p ι b a w cs B X Z:=h.out (Out.refl h.rel) h.fr h.marks hi
theorem post_out {L:Loud} {tF:TypeId} {Y:Option YC} {fn:Func} {Q:PQ} {f0 f1 b:Frame} {cs:List Frame} {B:Nat} (hrel:Rel P H ι w) (hs:Steps P (lone f0 cs w) (lone f1 cs w1)) (ho:Out P H ι w H1 ι1 w1)
  (h:PostW P L tF Y fn Q f1 b cs ι1 H1 w1 B X Z):PostW P L tF Y fn Q f0 b cs ι H w B X Z:=
 post_step hs ho.x (fun _ q rc _ hq=>⟨rc.state,keep_loop hrel ho hq⟩) h
theorem post_one {L:Loud} {tF:TypeId} {Y:Option YC} {fn:Func} {Q:PQ} {f0 f1 b:Frame} {cs:List Frame} {B:Nat} (hrel:Rel P H ι w) (hs:step P (lone f0 cs w)=.next (lone f1 cs w))
  (h:PostW P L tF Y fn Q f1 b cs ι H w B X Z):PostW P L tF Y fn Q f0 b cs ι H w B X Z:=post_out hrel (.one hs) (Out.refl hrel) h
theorem exit_okR {L:Loud} {N id:Nat} : ∀ {k k':List Item},exitTo id k=some k'→(∀x∈k,itemOkR L N x=true)→ ∀x∈k',itemOkR L N x=true
 | [],k',h,_=>by simp [exitTo]at h
 |y::k,k',h,hk=>by
  have ih:=@exit_okR L N id k k'
  have hk2: ∀x∈k,itemOkR L N x=true:=fun x hx=>hk x (List.mem_cons_of_mem _ hx)
  unfold exitTo at h
  split at h
  ·rename_i e
   injection e with e1 e2
   subst e2
   split at h
   ·injection h with h;subst h;exact hk2
   ·exact ih h hk2
  ·rename_i e
   injection e with e1 e2
   subst e2
   exact ih h hk2
  ·rename_i e;cases e
theorem find_okR {L:Loud} {N l:Nat} : ∀ {c r:Code},findLabel c l=some r→codeOkR L N c=true→codeOkR L N r=true:=by
 intro c
 induction c with
 |seq a b iha ihb=>
  intro r h hc
  simp only [codeOkR,Bool.and_eq_true]at hc
  unfold findLabel at h
  split at h
  ·rename_i rest hr
   simp only [Option.some.injEq]at h
   subst h
   simp only [codeOkR,Bool.and_eq_true]
   exact⟨iha hr hc.1,hc.2⟩
  ·exact ihb h hc.2
 |label l'=>
  intro r h _
  unfold findLabel at h
  split at h
  ·simp only [Option.some.injEq]at h;subst h;rfl
  ·cases h
 |_=>intro r h;simp [findLabel]at h
theorem goto_okR {L:Loud} {N id:Nat} : ∀ {k k':List Item},gotoIn id k=some k'→(∀x∈k,itemOkR L N x=true)→ ∀x∈k',itemOkR L N x=true
 | [],k',h,_=>by simp [gotoIn]at h
 |y::k,k',h,hk=>by
  have ih:=@goto_okR L N id k k'
  have hk2: ∀x∈k,itemOkR L N x=true:=fun x hx=>hk x (List.mem_cons_of_mem _ hx)
  have hy:=hk y (List.mem_cons_self ..)
  unfold gotoIn at h
  split at h
  ·rename_i e
   injection e with e1 e2
   subst e1 e2
   split at h
   ·rename_i rest hr
    simp only [Option.some.injEq]at h
    subst h
    intro x hx
    rcases List.mem_cons.1 hx with rfl|hx
    ·exact find_okR hr hy
    ·rcases List.mem_cons.1 hx with rfl|hx
     ·exact hy
     ·exact hk2 x hx
   ·exact ih h hk2
  ·rename_i e
   injection e with e1 e2
   subst e2
   exact ih h hk2
  ·rename_i e;cases e
end
def CatOk (P:Program) (tF:TypeId) (f:FuncId):Prop:=Entered P f∧ ∀(g:FuncId) (first caps:Array Value) (w:World) (Rr:World→Ending→World→Prop),
 Entered P g→(∀w1,Change (fun _=>False) w w1→Calls P g (first++caps) w1 (Rr w1))→(∀w1 e w2,Rr w1 e w2→Change (fun k=>k<w.heap.size) w1 w2∧((∃v,e=.returned v)∨ ∃x y,e=.panicked [pe tF (.agg #[.int .i64 x,.int .i64 y])]))→
 Calls P f #[.func (.func g) first caps] w (fun e w'=> ∃w1 e1 w2,Change (fun _=>False) w w1∧Rr w1 e1 w2∧Change (fun k=>w.heap.size≤k∧k<w1.heap.size) w2 w'∧
  ((∃v,e1=.returned v)∧e=.returned (.tuple #[fault0,.bool false])∨ ∃x y,e1=.panicked [pe tF (.agg #[.int .i64 x,.int .i64 y])]∧e=.returned (.tuple #[.agg #[.int .i64 x,.int .i64 y],.bool true])))
section
variable {P:Program} {H H' H1:LH} {ι ι' ι1:Ren} {w w' w1:World} {X:Option Nat} {Z:Nat→Prop}
theorem vr_func {n:Nat→Prop} {g:FuncId} {first caps:Array Value} {v':Value} (h:VR n ι (.func (.func g) first caps) v'): ∃f' c',v'=.func (.func g) f' c'∧first.size=f'.size∧caps.size=c'.size∧
  (∀(i:Nat) (x y:Value),first[i]?=some x→f'[i]?=some y→VR n ι x y)∧ ∀(i:Nat) (x y:Value),caps[i]?=some x→c'[i]?=some y→VR n ι x y:=by
 cases h with
 |flat _ hv=>
  have h2:first.size=0∧caps.size=0:=by simpa [flatB,flat1B,atomB]using hv
  have e0:first=#[]:=Array.eq_empty_of_size_eq_zero h2.1
  have e1:caps=#[]:=Array.eq_empty_of_size_eq_zero h2.2
  subst e0 e1
  exact⟨_,_,rfl,rfl,rfl,fun i x y hx _=>by simp at hx,fun i x y hx _=>by simp at hx⟩
 |func _ _ b _ d g1 g2 g3 g4=>exact⟨b,d,rfl,g1,g2,g3,g4⟩
theorem vr_tok {n:Nat→Prop} {l:Nat} {v':Value} (h:VR n ι (tok l) v'):v'=.func (.yield (ι l).blk) #[] #[]∧n l:=by
 unfold tok at h
 cases h with
 |flat _ hv=>simp [flatB,flat1B,atomB]at hv
 |yld _ hl=>exact⟨rfl,hl⟩
theorem list_rel {n:Nat→Prop} {xs:Array Value} {us:Array Value} (h1:xs.size=us.size) (h2: ∀(i:Nat) (x y:Value),xs[i]?=some x→us[i]?=some y→VR n ι x y):
  xs.toList.length=us.size∧ ∀(i:Nat) (x y:Value),xs.toList[i]?=some x→us[i]?=some y→VR n ι x y:=⟨by simpa using h1,fun i x y hx hy=>h2 i x y (by simpa using hx) hy⟩
theorem call_wp {N:Nat} {fr:Fr} {a:Act} {o:Oper} {tF:TypeId} {x:Operand} {args:Array Operand} {ts:Array TypeId} {g:FuncId} {first caps:Array Value} {Q:CQ0} (hrel:Rel P H ι w) (hfr:FrR H.D ι N fr a.tmps) (ho:o.op=.call ⟨.value x,args,ts⟩)
  (hx:ev fr x=.func (.func g) first caps) (hE:Entered P g) (hc:CallOkW P tF g (first.toList++args.toList.map (ev fr)++caps.toList) H Q):
  o.wp P a w (fun a' w'=> ∃H' ι' v v',Q (.ret v) H'∧a'=a.put o.dst v'∧Out P H ι w H' ι' w'∧VR H'.D ι' v v') (fun e a' w'=> ∃ch,e=.panic ch∧ ∃H' ι' v v',Q (.pan v) H'∧ch= [pe tF v']∧Out P H ι w H' ι' w'∧VR H'.D ι' v v'):=by
 have h1:=hfr.ev x
 rw [hx]at h1
 obtain⟨f',c',e,k1,k2,k3,k4⟩:=vr_func h1
 have hrun:(execOp a.eval o).run P w=.ok (.enter g (f'++args.map a.eval++c')) w:=by
  unfold execOp
  simp only [ho,resolve,e,Deferred.ofValue,Sem.run_bind,Sem.run_pure,Result.andThen_ok,invoke]
  exact enter_run hE _
 obtain⟨h2,h3⟩:=args_rel hfr args
 obtain⟨m1,m2⟩:=list_rel k1 k3
 obtain⟨m3,m4⟩:=app_rel m1 h2 m2 h3
 obtain⟨m5,m6⟩:=list_rel k2 k4
 obtain⟨m7,m8⟩:=app_rel m3 m5 m4 m6
 unfold Oper.wp
 rw [hrun,Oper.upon_enter]
 refine(hc ι w _ hrel m7 m8).mono ?_
 rintro e' w' ⟨r,H',ι',hq,hr,hout⟩
 cases r with
 |ret v=>obtain⟨v',rfl,hv⟩:=hr;exact⟨H',ι',v,v',hq,rfl,hout,hv⟩
 |pan v=>obtain⟨v',rfl,hv⟩:=hr;exact⟨_,rfl,H',ι',v,v',hq,rfl,hout,hv⟩
 |jump j=>exact hr.elim
theorem setL_rel {n:Nat→Prop} {N:Nat} : ∀(ps:List Tmp) (vs:List Value) (us:List Value) (fr:Fr) (tmps:Array Value),FrR n ι N fr tmps→(∀d∈ps,d<N)→vs.length=us.length→
  (∀(i:Nat) (x y:Value),vs[i]?=some x→us[i]?=some y→VR n ι x y)→FrR n ι N (setL fr (ps.zip vs)) ((ps.zip us).foldl (fun t (d,v)=>t.setIfInBounds d v) tmps)
 | [],vs,us,fr,tmps,h,_,_,_=>by simpa [setL]using h
 |p::ps,[],us,fr,tmps,h,_,hl,_=>by
  have:us= []:=List.length_eq_zero_iff.1 (by simpa using hl.symm)
  subst this;simpa [setL]using h
 |p::ps,v::vs,[],fr,tmps,h,_,hl,_=>by simp at hl
 |p::ps,v::vs,u::us,fr,tmps,h,hp,hl,hv=>by
  simp only [List.zip_cons_cons,setL,List.foldl_cons]
  refine setL_rel ps vs us _ _ ?_ (fun d hd=>hp d (List.mem_cons_of_mem _ hd)) (by simpa using hl) (fun i x y hx hy=>hv (i+1) x y (by simpa using hx) (by simpa using hy))
  have:=FrR.put (a:=⟨tmps,[]⟩) (d:=some p) (v:=v) (v':=u) (fr':=upd fr p v) h (by unfold lput;simp only;rw [if_pos (hp p (List.mem_cons_self ..))]) (hv 0 v u rfl rfl)
  exact this
theorem drop_cons {all:Array Oper} {m:Nat} {o:Oper} {os:List Oper} (h:o::os=all.toList.drop m):m<all.size∧all[m]?=some o∧os=all.toList.drop (m+1)∧List.range' m (all.size-m)=m::List.range' (m+1) (all.size-(m+1)):=by
 have hl:m<all.size:=by
  rcases Nat.lt_or_ge m all.size with h1|h1
  ·exact h1
  ·rw [List.drop_eq_nil_of_le (by simpa using h1)]at h;cases h
 rw [List.drop_eq_getElem_cons (by simpa using hl)]at h
 injection h with h1 h2
 refine⟨hl,by rw [h1,Array.getElem?_eq_getElem hl];simp,h2,?_⟩
 obtain⟨n,hn⟩: ∃n,all.size-m=n+1:=⟨all.size-m-1,by omega⟩
 rw [hn,show all.size-(m+1)=n by omega,List.range'_succ]
theorem rel_dead (h:Rel P H ι w) {q:Nat} (hw:Change (fun _=>False) w w1):Rel P H.dead (ι.add H.n ⟨q,0,0⟩) w1:=by
 have h':=rel_change h hw
 have hD: ∀l,H.D l→H.dead.D l:=fun l hl=>⟨Nat.lt_succ_of_lt hl.1,hl.2⟩
 have hi: ∀l,H.D l→ι.add H.n ⟨q,0,0⟩ l=ι l:=fun l hl=>by unfold Ren.add;rw [if_neg (Nat.ne_of_lt hl.1)]
 have hne: ∀ {l b},H.get l=some b→ι.add H.n ⟨q,0,0⟩ l=ι l:=fun hb=>hi _ (h'.live hb)
 refine⟨fun l hl=>h'.dom l (Nat.le_of_succ_le hl),fun l hl=>⟨Nat.lt_succ_of_lt (h'.hol l hl).1,(h'.hol l hl).2⟩,fun l b hb=>?_,fun l l' b b' hb hb' hr hll=>?_,fun g hg=>?_⟩
 ·have hb':H.get l=some b:=hb
  rw [hne hb']
  exact(h'.br l b hb').mono hD hi
 ·rw [hne hb,hne hb'];exact h'.sep l l' b b' hb hb' hr hll
 ·obtain⟨g1,g2,g3⟩:=h'.pin g hg
  refine⟨g1,g2,?_⟩
  rintro⟨l,b,hb,hr,e⟩
  exact g3 ⟨l,b,hb,hr,by rw [←hne hb];exact e⟩
theorem rw_dead (h:Rel P H ι w) {q k:Nat} :RW H.dead (ι.add H.n ⟨q,0,0⟩) k→RW H ι k:=by
 rintro⟨l,b,hb,hr,e⟩
 refine⟨l,b,hb,hr,?_⟩
 have:ι.add H.n ⟨q,0,0⟩ l=ι l:=by unfold Ren.add;rw [if_neg (Nat.ne_of_lt (h.live hb).1)]
 rw [←this];exact e
theorem img_dead (h:Rel P H ι w) {q k:Nat} :Img H.dead (ι.add H.n ⟨q,0,0⟩) k→Img H ι k:=by
 rintro⟨l,b,hb,e⟩
 refine⟨l,b,hb,?_⟩
 have:ι.add H.n ⟨q,0,0⟩ l=ι l:=by unfold Ren.add;rw [if_neg (Nat.ne_of_lt (h.live hb).1)]
 rw [←this];exact e
theorem ng_le (h:Rel P H ι w):H.ng≤w.heap.size:=by
 rcases Nat.eq_zero_or_pos H.ng with h0|h0
 ·omega
 ·have:=(h.pin (H.ng-1) (by omega)).2.1;omega
theorem enter_loop {E:PEnv} {Y:Option YC} {rd:Nat} {fn:Func} {k:List Item} {fr:Fr} {p:St} {b:Frame} {a:Act} {cs:List Frame} {B:Nat} (h:Pre P E Y rd fn k fr H p ι b a w cs B X Z) (ps:Array Tmp) (assign body:Code):
  ∃l mark w1 dd,(Instr.enterLoop b.fn a.tmps ps assign body b.roundOf).run P w=.ok (l,mark) w1∧w1.heap[l]?=some (.loop { state:=.ready,pending:=none,fn:=b.fn,tmps:=a.tmps,params:=ps,assign,body,defers:=dd })∧Change (fun _=>False) w w1∧w.heap.size≤l∧Marks B w1 (mark++a.defers):=by
 have hmk: ∀w1,Change (fun _=>False) w w1→Marks B w1 a.defers:=fun w1 hc=>h.marks.out (X:=none) (Z:=fun _=>False) (out_change h.rel hc).x h.rel (by simp) (fun _ h=>h.elim)
 have lt: ∀d∈a.defers,∀r,d= { target:=.collected r,args:=#[] } →r<w.heap.size:=by
  have: ∀(ds:List Deferred),Marks B w ds→ ∀d∈ds,∀r,d= { target:=.collected r,args:=#[] } →r<w.heap.size:=by
   intro ds
   induction ds with
   |nil=>intro _ d hd;cases hd
   |cons x xs ih=>
    rintro⟨⟨r,h1,_,h3,_⟩,h5⟩ d hd r' e
    rcases List.mem_cons.1 hd with rfl|hd
    ·rw [h1]at e;injection e with e;injection e with e;subst e;exact(Array.getElem?_eq_some_iff.1 h3).1
    ·exact ih h5 d hd r' e
  exact this _ h.marks
 cases hro:b.roundOf with
 |none=>
  have hc:Change (fun _=>False) w ((w.alloc (.deferred (some []))).alloc (.loop { state:=.ready,pending:=none,fn:=b.fn,tmps:=a.tmps,params:=ps,assign,body,defers:=w.heap.size })):=((Change.refl _ w).alloc _).alloc _
  refine⟨_,_,_,w.heap.size,run_enterLoop_outer b.fn a.tmps ps assign body,?_,hc,Nat.le_succ _,?_⟩
  ·have:=World.alloc_heap_new (w.alloc (.deferred (some []))) (.loop { state:=.ready,pending:=none,fn:=b.fn,tmps:=a.tmps,params:=ps,assign,body,defers:=w.heap.size })
   rwa [World.size_alloc]at this
  ·refine⟨⟨w.heap.size,rfl,h.hB,?_,fun d hd e=>?_⟩,hmk _ hc⟩
   ·rw [Below.heap_alloc _ _ _ (by simp)];exact World.alloc_heap_new w _
   ·have:=lt d hd _ e;omega
 |some lr=>
  have hr:rd≠0:=fun e=>by have:=h.rd0 e;rw [hro]at this;cases this
  obtain⟨_,lr',c,cs0,rc,h1,_,_,_,h5,_⟩:=h.rd1 hr
  rw [hro]at h1
  injection h1 with h1
  subst h1
  have hc:Change (fun _=>False) w (w.alloc (.loop { state:=.ready,pending:=none,fn:=b.fn,tmps:=a.tmps,params:=ps,assign,body,defers:=rc.defers })):=(Change.refl _ w).alloc _
  refine⟨w.heap.size,[],_,rc.defers,?_,World.alloc_heap_new _ _,hc,Nat.le_refl _,hmk _ hc⟩
  unfold Instr.enterLoop
  simp only [Sem.run_bind,run_getLoop h5,run_newObj_alloc,Result.andThen,Sem.run_pure]
end
section
variable {P:Program} {E:PEnv}
theorem head_ok {x:Item} {k:List Item} {L:Loud} {N:Nat} (h: ∀y∈x::k,itemOkR L N y=true):itemOkR L N x=true∧ ∀y∈k,itemOkR L N y=true:=⟨h x (List.mem_cons_self ..),fun y hy=>h y (List.mem_cons_of_mem _ hy)⟩
theorem cons_ok {x:Item} {k:List Item} {L:Loud} {N:Nat} (h1:itemOkR L N x=true) (h2: ∀y∈k,itemOkR L N y=true): ∀y∈x::k,itemOkR L N y=true:=fun y hy=>by
 rcases List.mem_cons.1 hy with rfl|hy
 ·exact h1
 ·exact h2 y hy
theorem sound_body {f:FuncId} {fn:Func} {c:Code} {args:List Value} {H:LH} {Q:CQ0} {Q1:PQ} (hf:fnOk P E f fn c args) (ih:SoundW P E (.run none 0 fn [.code c] (enter args) H st0 Q1)) (hQ: ∀r H' p',Q1 r H' p'→p'.pd=none∧Q r H'):SoundW P E (.call f args H Q):=by
 obtain⟨h1,h2,h3,h4,h5⟩:=hf
 refine⟨⟨fn,h1,by rw [h2];rfl,h4⟩,?_⟩
 intro ι w args' hrel hl hargs cs
 let b:Frame:= { (default:Frame)with fn:=f,kind:=.normal }
 let a:Act:= { tmps:=args'++Array.replicate (fn.ntmps-args'.size) undef,defers:= [] }
 have henter:Frame.enter P f args' .normal=b.atR a [.code c]:=by simp [Frame.enter,Frame.atR,h1,h2,b,a];rfl
 have pre:Pre P E none 0 fn [.code c] (enter args) H st0 ι b a w cs w.heap.size none (fun _=>False):=
  ⟨cons_ok h5 (by simp),hrel,enter_rel hl hargs h3,h1,rfl,(fun _ h=>by cases h),(fun _ h=>by cases h),(fun _ h=>h.elim),(fun _ h=>by cases h),fun _=>rfl,(fun h=>absurd rfl h),trivial,Nat.le_refl _,ng_le hrel⟩
 obtain⟨r,H',p',hq1,ι',w',ho,hy,hp⟩:=ih ι b a w cs w.heap.size none (fun _=>False) pre
 have hq:=(hQ _ _ _ hq1).2
 rw [←henter]at hp
 have ho:=ho.out
 have fin: ∀(a':Act) (t':List Item) (md:FrameMode),md≠.run→Marks w.heap.size w' a'.defers→ ∃w2,Steps P (lone { b.atR a' t' with mode:=md } cs w') (lone { b.atR { a' with defers:= [] } t' with mode:=md } cs w2)∧Out P H ι w H' ι' w2:=by
  intro a' t' md hmd hmk
  obtain⟨w2,g1,g2⟩:=marks_steps (P:=P) (cs:=cs) a'.defers { b.atR a' t' with mode:=md } w' hmd rfl hmk
  refine⟨w2,g1,?_⟩
  have hr2:Rel P H' ι' w2:=rel_off ho.rel g2 (fun k hk=>by
   refine⟨fun hi=>?_,?_⟩
   ·obtain⟨_,hw,hq9⟩:=img_cells ho.rel hi
    rw [hk.2]at hw;cases hw;cases hq9
   ·have:=ng_le hrel;have:=hk.1;rw [ho.ng];omega)
  exact⟨hr2,ho.n,ho.sub,ho.same,ho.chg.trans g2 (fun k hk=>.inr hk.1),ho.rw,ho.img,ho.ng⟩
 cases r with
 |ret v=>
  obtain⟨a',t',fr',g1,g2,g3,g4⟩:=hp
  obtain⟨w2,s2,ho2⟩:=fin a' t' .returning (by simp) g2
  obtain⟨v',hr,hv⟩:=results_ok ho2.rel g3 g4
  exact⟨.returned v',w2,_,⟨_,H',ι',hq,⟨v',rfl,hv⟩,ho2⟩,Steps.trans g1 s2,rfl,rfl,rfl,rfl,fn,h1,hr⟩
 |pan v=>
  obtain⟨a',t',v',g1,g2,g3⟩:=hp
  obtain⟨w2,s2,ho2⟩:=fin a' t' (.panicking [pe E.tF v']) (by simp) g2
  exact⟨.panicked [pe E.tF v'],w2,_,⟨_,H',ι',hq,⟨v',rfl,g3⟩,ho2⟩,Steps.trans g1 s2,rfl,rfl,rfl,fn,h1⟩
 |jump j=>
  obtain⟨_,lr,_,_,e,_⟩:=hp
  cases e
theorem flat_out {H H':LH} {ι ι':Ren} {w w':World} (hrel:Rel P H ι w) (ho:Out P H ι w H' ι' w') (hle:H.le H'):Out P H ι w H ι w':=out_trunc hrel ho hle
theorem sound_trunc {f:FuncId} {args:List Value} {H:LH} {Q Q1:CQ0} (ih:SoundW P E (.call f args H Q1)) (hq: ∀r H',Q1 r H'→Q r H'∨flatR r=true∧H.le H'∧Q r H):SoundW P E (.call f args H Q):=by
 refine⟨ih.1,fun ι w args' hrel hl hargs=>(ih.2 ι w args' hrel hl hargs).mono ?_⟩
 rintro e w' ⟨r,H',ι',q,hr,ho⟩
 rcases hq r H' q with q|⟨hf,hle,q⟩
 ·exact⟨r,H',ι',q,hr,ho⟩
 refine⟨r,H,ι,q,?_,flat_out hrel ho hle⟩
 cases r with
 |ret v=>obtain⟨v',rfl,hv⟩:=hr;exact⟨v',rfl,by rw [flat_eq hv hf];exact .flat _ hf⟩
 |pan v=>obtain⟨v',rfl,hv⟩:=hr;exact⟨v',rfl,by rw [flat_eq hv hf];exact .flat _ hf⟩
 |jump j=>exact hr
theorem sound_cat {f g:FuncId} {first caps:Array Value} {H:LH} {Q Q1:CQ0} (hc:CatOk P E.tF f) (ih:SoundW P E (.call g (first.toList++caps.toList) H Q1)) (q1: ∀v H',Q1 (.ret v) H'→Q (.ret (.tuple #[fault0,.bool false])) H')
  (q2: ∀v H',Q1 (.pan v) H'→ ∃a c,v=.agg #[.int .i64 a,.int .i64 c]∧Q (.ret (.tuple #[.agg #[.int .i64 a,.int .i64 c],.bool true])) H'):SoundW P E (.call f [.func (.func g) first caps] H Q):=by
 refine⟨hc.1,fun ι w args' hrel hl hargs=>?_⟩
 obtain⟨l⟩:=args'
 match l,hl with
 | [u],_=>
 obtain⟨f',c',rfl,k1,k2,k3,k4⟩:=vr_func (hargs 0 _ _ rfl rfl)
 obtain⟨m1,m2⟩:=list_rel k1 k3
 obtain⟨m3,m4⟩:=list_rel k2 k4
 obtain⟨m5,m6⟩:=app_rel m1 m3 m2 m4
 refine(hc.2 g f' c' w (fun w1 e w2=> ∃r H' ι',Q1 r H'∧ResR E.tF H'.D ι' r e∧Out P H ι w1 H' ι' w2) ih.1 (fun w1 hw1=>ih.2 ι w1 _ (rel_change hrel hw1) m5 m6) (fun w1 e w2 ⟨r,H',ι',hq,hrr,hoo⟩=>⟨hoo.chg.mono (fun k _ hk=>?_),?_⟩)).mono ?_
 ·obtain⟨l,b,hb,_,rfl⟩:=hk
  obtain⟨_,hw,_⟩:=img_cells hrel ⟨l,b,hb,rfl⟩
  exact(Array.getElem?_eq_some_iff.1 hw).1
 ·cases r with
  |ret u=>obtain⟨v',rfl,_⟩:=hrr;exact .inl ⟨v',rfl⟩
  |pan u=>
   obtain⟨x,y,rfl,_⟩:=q2 _ _ hq
   obtain⟨v',rfl,hv⟩:=hrr;exact .inr ⟨x,y,by rw [flat_eq hv rfl]⟩
  |jump j=>exact hrr.elim
 ·rintro e w' ⟨w1,e1,w2,c1,⟨r,H',ι',hq,hrr,ho⟩,c2,hcase⟩
  have hwv: ∃v,e=.returned v∧flatB v=true∧Q (.ret v) H':=by
   cases r with
   |ret u=>
    obtain⟨v',rfl,_⟩:=hrr
    rcases hcase with⟨_,h⟩|⟨x,y,h,_⟩
    ·exact⟨_,h,rfl,q1 _ _ hq⟩
    ·cases h
   |pan u=>
    obtain⟨x,y,rfl,q3⟩:=q2 _ _ hq
    obtain⟨v',rfl,hv⟩:=hrr
    rw [flat_eq hv rfl]at hcase
    rcases hcase with⟨⟨_,h⟩,_⟩|⟨x',y',h,h2⟩
    ·cases h
    ·simp only [Ending.panicked.injEq,List.cons.injEq,pe,PanicEntry.mk.injEq,Value.iface.injEq]at h
     have:=h.1.1.2
     simp at this
     obtain⟨rfl,rfl⟩:=this
     exact⟨_,h2,rfl,q3⟩
   |jump j=>exact hrr.elim
  obtain⟨v,hwv,hvf,q3⟩:=hwv
  refine⟨.ret v,H',ι',q3,⟨v,hwv,.flat _ hvf⟩,?_⟩
  have hS: ∀k,(w.heap.size≤k∧k<w1.heap.size)→ ¬Img H' ι' k∧ ¬k<H'.ng:=fun k hk=>by
   refine⟨fun hi=>?_,by rw [ho.ng];have:=ng_le hrel;omega⟩
   rcases ho.img k hi with h1|h1
   ·obtain⟨_,hw,_⟩:=img_cells hrel h1
    have:=(Array.getElem?_eq_some_iff.1 hw).1
    omega
   ·omega
  refine⟨rel_off ho.rel c2 hS,ho.n,ho.sub,ho.same,?_,fun k hk=>?_,fun k hk=>?_,ho.ng⟩
  ·refine((c1.mono (fun _ _ h=>h.elim)).trans ho.chg (fun i hi=>.inl hi)).trans c2 (fun i hi=>.inr hi.1)
  ·rcases ho.rw k hk with h1|h1
   ·exact .inl h1
   ·exact .inr (Nat.le_trans c1.size h1)
  ·rcases ho.img k hk with h1|h1
   ·exact .inl h1
   ·exact .inr (Nat.le_trans c1.size h1)
theorem sound_round {fn:Func} {k:List Item} {fr:Fr} {H:LH} {j:Option Code} {p:St} {Q:PQ} (hj:okJ j) (hq:Q (.jump j) H p)
  (hs: ∀(b:Frame) (a:Act) (w w':World) (c:Frame) (cs:List Frame) (lr:Nat) (v:Value),b.roundOf=some lr→b.kind=.normal→(Instr.endRound lr j).run P w=.ok v w'→step P (lone (b.atR a k) (c::cs) w)=.next (lone (c.finish v) cs w')):
  SoundW P E (.run none 2 fn k fr H p Q):=by
 intro ι b a w cs B X Z h
 obtain⟨_,lr,c,cs0,rc,h1,h2,h3,rfl,h5,_⟩:=h.rd1 (by decide)
 have hng:=(h.xok lr h2).2
 have hr:=run_endRound (P:=P) j h5
 have hch:OutX P X Z H ι w H ι (w.putObj lr (.loop { rc with state:=if j.isNone then .ready else .done,pending:=j })):=
  outx_off h.rel change_put (fun k hk=>by
   subst hk
   refine⟨fun hi=>?_,hng⟩
   obtain⟨_,hw,hq9⟩:=img_cells h.rel hi
   rw [h5]at hw;cases hw;cases hq9) (fun k _ hk=>by subst hk;exact .inl h2)
 refine⟨_,H,p,hq,ι,_,hch,h.yat,⟨rfl,hj⟩,lr,c,cs0,h2,rfl,.one (hs b a w _ c cs0 lr _ h1 h3 hr),fun rc' h'=>?_⟩
 rw [h5]at h'
 injection h' with h'
 injection h' with h'
 subst h'
 exact World.putObj_heap_same (Array.getElem?_eq_some_iff.1 h5).1
theorem sound_beg {fn:Func} {k:List Item} {fr:Fr} {H:LH} {p:St} {Q:PQ} (ih:SoundW P E (.run none 2 fn k fr H p Q)):SoundW P E (.run none 1 fn (.beginRound::k) fr H p Q):=by
 intro ι b a w cs B X Z h
 obtain⟨_,lr,c,cs0,rc,h1,h2,h3,rfl,h5,h6⟩:=h.rd1 (by decide)
 have hng:=(h.xok lr h2).2
 have hst:=stepR_beginRound (P:=P) (b:=b) (a:=a) (k:=k) (cs:=c::cs0) h1 (run_beginRound (P:=P) h5 (h6 rfl))
 have hi: ¬Img H ι lr:=fun hi=>by
  obtain⟨_,hw,hq9⟩:=img_cells h.rel hi
  rw [h5]at hw;cases hw;cases hq9
 have hch:OutX P X Z H ι w H ι (w.putObj lr (.loop { rc with state:=.busy })):=
  outx_off h.rel change_put (fun k hk=>by subst hk;exact⟨hi,hng⟩) (fun k _ hk=>by subst hk;exact .inl h2)
 have hnew:(w.putObj lr (.loop { rc with state:=.busy })).heap[lr]?=some (.loop { rc with state:=.busy }):=World.putObj_heap_same (Array.getElem?_eq_some_iff.1 h5).1
 refine post_step (.one hst) hch (fun _ q rc' hq hrc'=>?_) (ih ι b a _ (c::cs0) B X Z ⟨(head_ok h.items).2,hch.rel,h.fr,h.fn,(show p.pd=none from h.yat),(fun _ h=>by cases h),fun q hq=>?_,fun q hq=>?_,fun c hc=>?_,(fun h=>by cases h),fun _=>⟨rfl,lr,c,cs0,_,h1,h2,h3,rfl,hnew,fun h=>by cases h⟩,?_,by simpa using h.hB,h.hng⟩)
 ·rw [h2]at hq
  injection hq with hq
  subst hq
  rw [h5]at hrc'
  injection hrc' with hrc'
  injection hrc' with hrc'
  subst hrc'
  exact⟨.busy,hnew⟩
 ·rw [h2]at hq
  injection hq with hq
  subst hq
  exact⟨⟨_,hnew⟩,hng⟩
 ·obtain⟨⟨m,s,n,c,g1⟩,g2⟩:=h.zok q hq
  exact⟨⟨m,s,n,c,by rw [World.putObj_heap_other (fun e=>by subst e;rw [h5]at g1;cases g1)];exact g1⟩,g2⟩
 ·obtain⟨g1,g2,g3,g4,g5⟩:=h.itok c hc
  exact⟨g1,g2,g3,by rw [World.putObj_heap_other (fun e=>by rw [e,h5]at g4;cases g4)];exact g4,g5⟩
 ·exact h.marks.out hch h.rel h.xl h.zl
end
section
variable {P:Program} {l:List Oper} {o:Oper}
structure LastOk (l:List Oper) (o:Oper):Prop where
 bit: ∀i,i<l.length→mbit (masks (l++ [o]) []) l.length i=true
 after: ∀e∈o.after,Region.binds .any e=true→e.on<l.length
 back: ∀x∈l,∀e∈x.after,Region.binds .any e=true→e.on<l.length
 guard: ∀x∈l,∀g b,x.guard=some (g,b)→g<l.length
theorem lastB_spec (h:lastB l o=true):LastOk l o:=by
 unfold lastB at h
 simp only [Bool.and_eq_true]at h
 obtain⟨⟨h1,h2⟩,h3⟩:=h
 have bnd: ∀e:Edge,(!Region.binds .any e||decide (e.on<l.length))=true→Region.binds .any e=true→e.on<l.length:=fun e he hb=>by
  rw [hb]at he
  simpa using he
 refine⟨fun i hi=>List.all_eq_true.1 h1 i (List.mem_range.2 hi),fun e he hb=>bnd e (List.all_eq_true.1 h2 e (Array.mem_toList_iff.2 he)) hb,fun x hx e he hb=>?_,fun x hx g b hg=>?_⟩
 ·have:=List.all_eq_true.1 h3 x hx
  rw [Bool.and_eq_true]at this
  exact bnd e (List.all_eq_true.1 this.1 e (Array.mem_toList_iff.2 he)) hb
 ·have:=List.all_eq_true.1 h3 x hx
  rw [Bool.and_eq_true]at this
  have:=this.2
  rw [hg]at this
  simpa using this
theorem big_get {i:Nat} (hi:i<l.length):(⟨l++ [o]⟩:Array Oper)[i]?=(⟨l⟩:Array Oper)[i]?:=by
 rw [List.getElem?_toArray,List.getElem?_toArray,List.getElem?_append_left hi]
theorem big_last:(⟨l++ [o]⟩:Array Oper)[l.length]?=some o:=by
 rw [List.getElem?_toArray];simp
theorem push_getD {a:Array Bool} {i:Nat} {d:Bool} (hi:i<a.size):(a.push false).getD i d=a.getD i d:=by
 rw [Array.getD_eq_getD_getElem?,Array.getD_eq_getD_getElem?,Array.getElem?_push]
 rw [if_neg (by omega)]
theorem push_last {a:Array Bool} {d:Bool} :(a.push false).getD a.size d=false:=by
 rw [Array.getD_eq_getD_getElem?,Array.getElem?_push]
 simp
theorem push_set {a:Array Bool} {i:Nat} (hi:i<a.size):(a.push false).setIfInBounds i true=(a.setIfInBounds i true).push false:=by
 apply Array.ext
 ·simp
 ·intro j h1 h2
  have e1:((a.push false).setIfInBounds i true)[j]?=((a.setIfInBounds i true).push false)[j]?:=by
   rw [Array.getElem?_setIfInBounds,Array.getElem?_push,Array.getElem?_push,Array.getElem?_setIfInBounds]
   by_cases e:i=j
   ·subst e
    simp [hi]
    rw [if_pos (by omega),if_neg (by omega)]
   ·simp [e]
  rw [Array.getElem?_eq_getElem h1,Array.getElem?_eq_getElem h2]at e1
  exact Option.some.inj e1
theorem ready_push (h:LastOk l o) {ls:Array Bool} (hs:ls.size=l.length) {i:Nat} (hi:i<l.length):i∈Region.ready .any ⟨l++ [o]⟩ (ls.push false)↔i∈Region.ready .any ⟨l⟩ ls:=by
 rw [mem_ready,mem_ready,push_getD (by omega),big_get hi]
 refine and_congr_right (fun _=>exists_congr (fun x=>and_congr_right (fun hx=>?_)))
 have hm:x∈l:=by
  rw [List.getElem?_toArray]at hx
  exact List.mem_of_getElem? hx
 constructor
 ·intro g e he hb
  have:=g e he hb
  rwa [push_getD (by rw [hs];exact h.back x hm e he hb)]at this
 ·intro g e he hb
  rw [push_getD (by rw [hs];exact h.back x hm e he hb)]
  exact g e he hb
theorem cl_push (h:LastOk l o) {ls:Array Bool} (hs:ls.size=l.length) (hc:Cl ⟨l⟩ ls):Cl ⟨l++ [o]⟩ (ls.push false):=by
 intro j x hx hl e he hb
 unfold LS at hl⊢
 rcases Nat.lt_or_ge j l.length with hj|hj
 ·rw [push_getD (by omega)]at hl
  rw [big_get hj]at hx
  have hm:x∈l:=by
   rw [List.getElem?_toArray]at hx
   exact List.mem_of_getElem? hx
  rw [push_getD (by rw [hs];exact h.back x hm e he hb)]
  exact hc j x hx hl e he hb
 ·have hj2:=(Array.getElem?_eq_some_iff.1 hx).1
  have:j=l.length:=by simp at hj2;omega
  subst this
  rw [←hs,push_last]at hl
  cases hl
theorem last_not (h:LastOk l o) {ls:Array Bool} (hs:ls.size=l.length) (hc:Cl ⟨l⟩ ls) {i:Nat} (hi:i∈Region.ready .any ⟨l⟩ ls):l.length∉Region.ready .any ⟨l++ [o]⟩ (ls.push false):=by
 intro hr
 obtain⟨h1,h2⟩:=ready_lt hi
 have:=mbit_ready (cl_push h hs hc) hr (h.bit i h1)
 unfold LS at this
 rw [push_getD (by rw [hs];exact h1),h2]at this
 cases this
theorem ready_big (h:LastOk l o) {ls:Array Bool} (hs:ls.size=l.length) (hc:Cl ⟨l⟩ ls) (hn:Region.ready .any ⟨l⟩ ls≠ []):Region.ready .any ⟨l++ [o]⟩ (ls.push false)=Region.ready .any ⟨l⟩ ls:=by
 obtain⟨i,hi⟩:=List.exists_mem_of_ne_nil _ hn
 have hl:=last_not h hs hc hi
 unfold Region.ready at hl⊢
 rw [show(⟨l++ [o]⟩:Array Oper).size=l.length+1 by simp,List.range_succ,List.filter_append]
 rw [show(⟨l⟩:Array Oper).size=l.length from rfl]
 have e2: [l.length].filter (fun i=>!(ls.push false).getD i true&&(((⟨l++ [o]⟩:Array Oper)[i]?).map (·.after.all fun e=>!Region.binds .any e||(ls.push false).getD e.on false)).getD false)= []:=by
  rw [List.filter_eq_nil_iff]
  intro j hj
  rw [List.mem_singleton]at hj
  subst hj
  intro hp
  apply hl
  rw [show(⟨l++ [o]⟩:Array Oper).size=l.length+1 by simp]
  exact List.mem_filter.2 ⟨List.mem_range.2 (Nat.lt_succ_self _),hp⟩
 rw [e2,List.append_nil]
 apply List.filter_congr
 intro j hj
 have hj:=List.mem_range.1 hj
 have h1:=ready_push h hs hj
 unfold Region.ready at h1
 rw [List.mem_filter,List.mem_filter,show(⟨l++ [o]⟩:Array Oper).size=l.length+1 by simp,show(⟨l⟩:Array Oper).size=l.length from rfl]at h1
 simp only [List.mem_range,hj,Nat.lt_succ_of_lt hj,true_and]at h1
 rw [Bool.eq_iff_iff]
 exact h1
theorem ready_done {ls:Array Bool} (hb: ∀i x,(⟨l⟩:Array Oper)[i]?=some x→ ∀e∈x.after,Region.binds .any e=true→e.on<i) (hs:ls.size=l.length) (hn:Region.ready .any ⟨l⟩ ls= []): ∀i,i<l.length→ls.getD i true=true:=by
 have key: ∀n i,i<n→i<l.length→ls.getD i true=true:=by
  intro n
  induction n with
  |zero=>intro i hi;omega
  |succ n ih=>
   intro i hin hil
   rcases not_true_false (listed:=ls) (k:=i)with h1|h1
   ·exact h1
   ·exfalso
    have:i∈Region.ready .any ⟨l⟩ ls:=by
     refine mem_ready.2 ⟨h1,_,Array.getElem?_eq_getElem (show i<(⟨l⟩:Array Oper).size from hil),fun e he hbe=>?_⟩
     have hlt:=hb i _ (Array.getElem?_eq_getElem (show i<(⟨l⟩:Array Oper).size from hil)) e he hbe
     exact getD_tf (by omega) (ih e.on (by omega) (by omega))
    rw [hn]at this
    cases this
 exact fun i hi=>key (i+1) i (Nat.lt_succ_self _) hi
theorem ready_only (h:LastOk l o) {ls:Array Bool} (hs:ls.size=l.length) (hall: ∀i,i<l.length→ls.getD i true=true):Region.ready .any ⟨l++ [o]⟩ (ls.push false)= [l.length]:=by
 have hm:l.length∈Region.ready .any ⟨l++ [o]⟩ (ls.push false):=by
  refine mem_ready.2 ⟨by rw [←hs,push_last],o,big_last,fun e he hb=>?_⟩
  have:=h.after e he hb
  rw [push_getD (by omega)]
  exact getD_tf (by omega) (hall _ this)
 unfold Region.ready at hm⊢
 rw [show(⟨l++ [o]⟩:Array Oper).size=l.length+1 by simp]at hm⊢
 rw [List.range_succ,List.filter_append]
 have e1:(List.range l.length).filter (fun i=>!(ls.push false).getD i true&&(((⟨l++ [o]⟩:Array Oper)[i]?).map (·.after.all fun e=>!Region.binds .any e||(ls.push false).getD e.on false)).getD false)= []:=by
  rw [List.filter_eq_nil_iff]
  intro j hj
  have hj:=List.mem_range.1 hj
  rw [push_getD (by omega),hall j hj]
  simp
 rw [e1,List.nil_append,List.filter_eq_self]
 intro j hj
 rw [List.mem_singleton]at hj
 subst hj
 exact(List.mem_filter.1 hm).2
theorem ready_none {ls:Array Bool} (hall: ∀i,i<l.length+1→ls.getD i true=true):Region.ready .any ⟨l++ [o]⟩ ls= []:=by
 rw [List.eq_nil_iff_forall_not_mem]
 intro i hi
 obtain⟨h1,h2⟩:=ready_lt hi
 rw [hall i (by simpa using h1)]at h2
 cases h2
theorem go_nil {ops:Array Oper} {ls:Array Bool} (h:Region.ready .any ops ls= []) (fuel t:Nat):Region.linearise.go .any ops fuel t ls []= []:=by
 cases fuel with
 |zero=>rfl
 |succ fuel=>
  simp only [Region.linearise.go]
  change (match (Region.ready .any ops ls)[t%(Region.ready .any ops ls).length]? with
   |some i=>Region.linearise.go .any ops fuel (t/(Region.ready .any ops ls).length) (ls.setIfInBounds i true) [i]
   |none=> [].reverse)= []
  rw [h];rfl
theorem go_some {ops:Array Oper} {ls:Array Bool} {fuel t i:Nat} (h:(Region.ready .any ops ls)[t%(Region.ready .any ops ls).length]?=some i):Region.linearise.go .any ops (fuel+1) t ls []=i::Region.linearise.go .any ops fuel (t/(Region.ready .any ops ls).length) (ls.setIfInBounds i true) []:=by
 simp only [Region.linearise.go]
 change (match (Region.ready .any ops ls)[t%(Region.ready .any ops ls).length]? with
  |some i=>Region.linearise.go .any ops fuel (t/(Region.ready .any ops ls).length) (ls.setIfInBounds i true) [i]
  |none=> [].reverse)=_
 rw [h]
 simp only
 rw [linearise_go_acc]
 rfl
theorem pick {l:List Nat} (h:l≠ []) (t:Nat): ∃i,l[t%l.length]?=some i∧i∈l:=by
 have hp:=List.length_pos_iff.2 h
 have hlt:=Nat.mod_lt t hp
 exact⟨_,List.getElem?_eq_getElem hlt,List.getElem_mem hlt⟩
theorem lin_last (h:LastOk l o) (hb: ∀i x,(⟨l⟩:Array Oper)[i]?=some x→ ∀e∈x.after,Region.binds .any e=true→e.on<i): ∀(fuel t:Nat) (ls:Array Bool),ls.size=l.length→Cl ⟨l⟩ ls→undone ⟨l⟩ ls≤fuel→
  Region.linearise.go .any ⟨l++ [o]⟩ (fuel+1) t (ls.push false) []=Region.linearise.go .any ⟨l⟩ fuel t ls []++ [l.length]:=by
 have fin: ∀(fuel t:Nat) (ls:Array Bool),ls.size=l.length→Region.ready .any ⟨l⟩ ls= []→Region.linearise.go .any ⟨l++ [o]⟩ (fuel+1) t (ls.push false) []=Region.linearise.go .any ⟨l⟩ fuel t ls []++ [l.length]:=by
  intro fuel t ls hs hn
  have hall:=ready_done hb hs hn
  have h1:=ready_only h hs hall
  rw [go_nil hn,go_some (i:=l.length) (by rw [h1];simp [Nat.mod_one]),go_nil]
  ·rfl
  ·refine ready_none (fun i hi=>?_)
   by_cases e:l.length=i
   ·subst e;exact getD_set_self
   ·rw [getD_set_ne true e,push_getD (by omega)]
    exact hall i (by omega)
 intro fuel
 induction fuel with
 |zero=>
  intro t ls hs hc hu
  refine fin 0 t ls hs ?_
  rw [List.eq_nil_iff_forall_not_mem]
  intro i hi
  obtain⟨h1,h2⟩:=ready_lt hi
  have:=undone_set h1 h2
  omega
 |succ fuel ih=>
  intro t ls hs hc hu
  by_cases hn:Region.ready .any ⟨l⟩ ls= []
  ·exact fin _ t ls hs hn
  ·obtain⟨i,h1,h2⟩:=pick hn t
   obtain⟨h3,h4⟩:=ready_lt h2
   have h3:i<l.length:=h3
   have e:=ready_big h hs hc hn
   rw [go_some h1,go_some (i:=i) (by rw [e];exact h1),e,push_set (by omega),List.cons_append]
   congr 1
   refine ih _ _ (by simp [hs]) (fun j x hx hl e2 he hbe=>?_) (by
    have:=undone_set (ops:=⟨l⟩) h3 h4
    omega)
   unfold LS at hl⊢
   have mono:LS ls e2.on→(ls.setIfInBounds i true).getD e2.on true=true:=fun hh=>by
    by_cases e3:i=e2.on
    ·rw [←e3];exact getD_set_self
    ·rw [getD_set_ne true e3];exact hh
   by_cases e3:i=j
   ·subst e3
    obtain⟨_,x',hx',hall⟩:=mem_ready.1 h2
    rw [hx]at hx'
    injection hx' with hx'
    subst hx'
    refine mono (getD_ft (hall e2 he hbe))
   ·rw [getD_set_ne true e3]at hl
    exact mono (hc j x hx hl e2 he hbe)
theorem go_lt {ops:Array Oper} : ∀(fuel t:Nat) (ls:Array Bool),∀i∈Region.linearise.go .any ops fuel t ls [],i<ops.size:=by
 intro fuel
 induction fuel with
 |zero=>intro t ls i hi;simp [Region.linearise.go]at hi
 |succ fuel ih=>
  intro t ls i hi
  by_cases hn:Region.ready .any ops ls= []
  ·rw [go_nil hn]at hi;cases hi
  ·obtain⟨j,h1,h2⟩:=pick hn t
   rw [go_some h1]at hi
   rcases List.mem_cons.1 hi with rfl|hi
   ·exact(ready_lt h2).1
   ·exact ih _ _ i hi
theorem big_ops (h:LastOk l o) {Q:Exit→Act→World→Prop} : ∀(is:List Nat) (a:Act) (w:World),(∀i∈is,i<l.length)→wpOps P ⟨l⟩ Q is a w→wpOps P ⟨l++ [o]⟩ Q is a w
 | [],a,w,_,hw=>hw
 |i::is,a,w,hi,hw=>by
  have hlt:=hi i (by simp)
  simp only [wpOps]at hw⊢
  rw [big_get hlt]
  cases hx:(⟨l⟩:Array Oper)[i]? with
  |none=>rw [hx]at hw;exact big_ops h is a w (fun j hj=>hi j (by simp [hj])) hw
  |some x=>
   rw [hx]at hw
   have hm:x∈l:=by
    rw [List.getElem?_toArray]at hx
    exact List.mem_of_getElem? hx
   have e:Region.wanted x (yielded ⟨l++ [o]⟩ a.tmps)=Region.wanted x (yielded ⟨l⟩ a.tmps):=by
    unfold Region.wanted
    cases hg:x.guard with
    |none=>rfl
    |some y=>
     obtain⟨g,b⟩:=y
     simp only
     unfold yielded
     rw [big_get (h.guard x hm g b hg)]
   simp only [e]at hw⊢
   split
   ·rename_i hc
    rw [if_pos hc]at hw
    exact hw.imp (Oper.wp_mono (fun a' w'=>big_ops h is a' w' (fun j hj=>hi j (by simp [hj])))) id
   ·rename_i hc
    rw [if_neg hc]at hw
    exact big_ops h is _ w (fun j hj=>hi j (by simp [hj])) hw
end
section
variable {P:Program} {ops:Array Oper} {b:Frame} {k:List Item} {cs:List Frame}
theorem wp_opsR2 (hnd: ∀(i:Nat) (o:Oper),ops[i]?=some o→isDefer o.op=false) {K:Act→World→Prop} {r:List Nat} : ∀(l:List Nat) (a:Act) (w:World),wpOps P ops (fun e a w=>e=.normal∧K a w) l a w→
  ∃a' w',K a' w'∧Steps P (lone (b.atR a (.inRegion ops (l++r)::k)) cs w) (lone (b.atR a' (.inRegion ops r::k)) cs w')
 | [],a,w,h=>⟨a,w,h.2,.refl _ _⟩
 |i::rest,a,w,h=>by
  simp only [wpOps]at h
  rw [List.cons_append]
  cases ho:ops[i]? with
  |none=>
   simp only [ho]at h
   obtain⟨a',w',hq,hs⟩:=wp_opsR2 hnd (r:=r) rest a w h
   have hs1:=stepR_op_skip (P:=P) (b:=b) (a:=a) (k:=k) (cs:=cs) (w:=w) (ops:=ops) (i:=i) (rest:=rest++r) (by simp [ho])
   simp only [ho,Option.bind_none,Act.put]at hs1
   exact⟨a',w',hq,.head hs1 hs⟩
  |some o=>
   simp only [ho]at h
   by_cases hw:Region.wanted o (yielded ops a.tmps)=true
   ·simp only [hw,if_true]at h
    rcases h with h|⟨_,_,_,e,_⟩
    ·have h2:o.wp P a w (wpOps P ops (fun e a w=>e=.normal∧K a w) rest) (fun e a' w'=> ∃ch,e=.panic ch∧False):=by
      revert h
      unfold Oper.wp Oper.upon
      split
      ·exact id
      ·exact id
      ·exact id
      ·intro h
       refine h.mono (fun e w''=>?_)
       cases e with
       |returned v=>exact id
       |panicked ch=>intro hx;cases hx.1
       |outgrown=>rintro⟨_,_,e,_⟩;cases e
      ·exact id
      ·intro hx;cases hx.1
      ·exact id
     obtain⟨a1,w1,hk,hs1⟩:=step_opR1 (b:=b) (k:=k) (cs:=cs) (rest:=rest++r) ho hw (hnd i o ho) h2
     obtain⟨a',w',hq,hs⟩:=wp_opsR2 hnd (r:=r) rest a1 w1 hk
     exact⟨a',w',hq,Steps.trans hs1 hs⟩
    ·cases e
   ·simp only [hw,if_false,Bool.false_eq_true]at h
    obtain⟨a',w',hq,hs⟩:=wp_opsR2 hnd (r:=r) rest _ w h
    have hs1:=stepR_op_skip (P:=P) (b:=b) (a:=a) (k:=k) (cs:=cs) (w:=w) (ops:=ops) (i:=i) (rest:=rest++r)
     (by simp [ho];simpa using hw)
    simp only [ho,Option.bind_some]at hs1
    exact⟨a',w',hq,.head hs1 hs⟩
end
section
variable {P:Program} {E:PEnv}
theorem wp_plain {o:Oper} {a:Act} {w:World} {K:Act→World→Prop} (h:o.wp P a w K (fun _ _ _=>False)):o.wp P a w K (fun e a' w'=> ∃ch,e=.panic ch∧False):=by
 revert h
 unfold Oper.wp Oper.upon
 split
 ·exact id
 ·exact id
 ·exact id
 ·intro h
  refine h.mono (fun e w''=>?_)
  cases e with
  |returned v=>exact id
  |panicked ch=>exact False.elim
  |outgrown=>rintro⟨_,_,e⟩;exact e.elim
 ·exact id
 ·exact False.elim
 ·exact id
variable {Y:Option YC} {rd:Nat} {fn:Func} {all:Array Oper} {o:Oper} {os:List Oper} {k:List Item} {fr fr1:Fr} {H H1 H':LH} {p:St} {Q:PQ} {v:Value}
theorem ops_next {ι ι1:Ren} {b:Frame} {a a1:Act} {w w1:World} {cs:List Frame} {B:Nat} {X:Option Nat} {Z:Nat→Prop} {m:Nat} (h:Pre P E Y (rdz rd) fn k fr H p ι b a w cs B X Z) {v':Value} (ho:Out P H ι w H1 ι1 w1) (hv:VR H1.D ι1 v v') (hput:lput fn.ntmps fr o.dst v=some fr1) (ha:a1=a.put o.dst v')
  (hs:Steps P (lone (b.atR a (.inRegion all (m::List.range' (m+1) (all.size-(m+1)))::k)) cs w) (lone (b.atR a1 (.inRegion all (List.range' (m+1) (all.size-(m+1)))::k)) cs w1))
  (hos:os=all.toList.drop (m+1)) (hm:m<all.size) (ih:SoundW P E (.ops Y rd fn all os k fr1 H1 p Q)):PostW P E.pl E.tF Y fn Q (b.atR a (.inRegion all (m::List.range' (m+1) (all.size-(m+1)))::k)) b cs ι H w B X Z:=by
 refine post_out h.rel hs ho (ih (m+1) ι1 b a1 w1 cs B X Z hos hm (h.out ho ?_ ?_ h.items))
 ·rw [ha];exact(h.fr.mono ho.sub ho.same).put hput hv
 ·rw [ha,put_defers];exact h.marks.out (X:=none) (Z:=fun _=>False) ho.x h.rel (by simp) (fun _ h=>h.elim)
theorem lopB_defer {T:Callee} (h:lopB P T o fr H=some (v,H1)):isDefer o.op=false:=by
 obtain⟨d,op,ty,ps,af,g⟩:=o
 cases op<;>first|rfl|(simp [lopB,lop,lpure]at h)
theorem sound_oplain (hT:TOk P (LC P E.E)) (hw:lwant all fr o=some true) (hop:lopB P (LC P E.E) o fr H=some (v,H1)) (hput:lput fn.ntmps fr o.dst v=some fr1) (ih:SoundW P E (.ops Y rd fn all os k fr1 H1 p Q)):SoundW P E (.ops Y rd fn all (o::os) k fr H p Q):=by
 intro m ι b a w cs B X Z hos hm h
 obtain⟨hlt,hget,hos',hr⟩:=drop_cons hos
 rw [hr]
 obtain⟨a1,w1,⟨ι1,v',ho,hv,ha⟩,hs⟩:=step_opR1 (P:=P) (b:=b) (k:=k) (cs:=cs) (rest:=List.range' (m+1) (all.size-(m+1))) (K:=fun a1 w1=> ∃ι1 v',Out P H ι w H1 ι1 w1∧VR H1.D ι1 v v'∧a1=a.put o.dst v') hget (want_eq h.fr hw) (lopB_defer hop)
  (wp_plain (lopB_ok hT h.rel h.fr hop _ _ (fun ι' v' w' ho hv=>⟨ι',v',ho,hv,rfl⟩)))
 exact ops_next h ho hv hput ha hs hos' hlt ih
theorem sound_oskip (hw:lwant all fr o=some false) (hput:lput fn.ntmps fr o.dst undef=some fr1) (ih:SoundW P E (.ops Y rd fn all os k fr1 H p Q)):SoundW P E (.ops Y rd fn all (o::os) k fr H p Q):=by
 intro m ι b a w cs B X Z hos hm h
 obtain⟨hlt,hget,hos',hr⟩:=drop_cons hos
 rw [hr]
 have hs:=stepR_op_skip (P:=P) (b:=b) (a:=a) (k:=k) (cs:=cs) (w:=w) (ops:=all) (i:=m) (rest:=List.range' (m+1) (all.size-(m+1))) (by
  rw [hget];simp [want_eq h.fr hw])
 rw [hget]at hs
 exact ops_next h (Out.refl h.rel) (.flat _ rfl) hput rfl (.one hs) hos' hlt ih
theorem sound_omkf {g:FuncId} {first caps:Array Operand} (hw:lwant all fr o=some true) (hop:o.op=.makeFunc (.func g) first caps) (hput:lput fn.ntmps fr o.dst (.func (.func g) (first.map (ev fr)) (caps.map (ev fr)))=some fr1) (ih:SoundW P E (.ops Y rd fn all os k fr1 H p Q)):SoundW P E (.ops Y rd fn all (o::os) k fr H p Q):=by
 intro m ι b a w cs B X Z hos hm h
 obtain⟨hlt,hget,hos',hr⟩:=drop_cons hos
 rw [hr]
 have hrun:(execOp a.eval o).run P w=.ok (.value (.func (.func g) (first.map a.eval) (caps.map a.eval))) w:=by
  unfold execOp
  rw [hop]
  rfl
 obtain⟨a1,w1,⟨ha,hw1⟩,hs⟩:=step_opR1 (P:=P) (b:=b) (k:=k) (cs:=cs) (rest:=List.range' (m+1) (all.size-(m+1))) (K:=fun a1 w1=>a1=a.put o.dst (.func (.func g) (first.map a.eval) (caps.map a.eval))∧w1=w) hget (want_eq h.fr hw) (by rw [hop];rfl)
  (by unfold Oper.wp;rw [hrun];exact⟨rfl,rfl⟩)
 subst hw1
 refine ops_next h (Out.refl h.rel) ?_ hput ha hs hos' hlt ih
 refine .func _ _ _ _ _ (by simp) (by simp) (fun i x y hx hy=>?_) (fun i x y hx hy=>?_)
 all_goals
  simp only [Array.getElem?_map,Option.map_eq_some_iff]at hx hy
  obtain⟨x',hx',rfl⟩:=hx
  obtain⟨y',hy',rfl⟩:=hy
  rw [hx']at hy'
  injection hy' with hy'
  subst hy'
  exact h.fr.ev x'
theorem sound_ocall {x:Operand} {args:Array Operand} {ts:Array TypeId} {g:FuncId} {first caps:Array Value} {Q1:CQ0} {fr2:Value→Fr} (hw:lwant all fr o=some true) (hop:o.op=.call ⟨.value x,args,ts⟩) (hx:ev fr x=.func (.func g) first caps)
  (hc:SoundW P E (.call g (first.toList++args.toList.map (ev fr)++caps.toList) H Q1)) (hput: ∀v H1,Q1 (.ret v) H1→lput fn.ntmps fr o.dst v=some (fr2 v)) (ih: ∀v H1,Q1 (.ret v) H1→SoundW P E (.ops Y rd fn all os k (fr2 v) H1 p Q)) (hp: ∀v H1,Q1 (.pan v) H1→Q (.pan v) H1 p):SoundW P E (.ops Y rd fn all (o::os) k fr H p Q):=by
 intro m ι b a w cs B X Z hos hm h
 obtain⟨hlt,hget,hos',hr⟩:=drop_cons hos
 rw [hr]
 rcases step_opR (P:=P) (b:=b) (k:=k) (cs:=cs) (rest:=List.range' (m+1) (all.size-(m+1))) hget (want_eq h.fr hw) (by rw [hop];rfl) (call_wp h.rel h.fr hop hx hc.1 hc.2)with⟨a1,w1,⟨H1,ι1,u,v',q,ha,ho,hv⟩,hs⟩|⟨ch,w1,⟨H1,ι1,u,v',q,rfl,ho,hv⟩,hs⟩
 ·exact ops_next h ho hv (hput _ _ q) ha hs hos' hlt (ih _ _ q)
 ·exact⟨.pan u,H1,p,hp _ _ q,ι1,w1,ho.x,h.yat.out h.rel ho,a,_,v',hs,h.marks.out (X:=none) (Z:=fun _=>False) ho.x h.rel (by simp) (fun _ h=>h.elim),hv⟩
theorem sound_draw {id:Nat} {ops:Array Oper} (hT:TOk P (LC P E.E)) (hm:P.follows .mixedOrders=true) (hl:ldraw P E.pl (LC P E.E) fn.ntmps id ops fr H=some (fr1,H1)) (ih:SoundW P E (.run Y rd fn k fr1 H1 p Q)):SoundW P E (.run Y rd fn (.code (.region id ops true)::k) fr H p Q):=by
 intro ι b a w cs B X Z h
 obtain⟨h1,h2⟩:=head_ok h.items
 simp only [itemOkR,codeOkR,Bool.and_eq_true]at h1
 obtain⟨h1,h3⟩:=h1
 have hnd: ∀(i:Nat) (o:Oper),ops[i]?=some o→isDefer o.op=false:=fun i o ho=>by
  have:=List.all_eq_true.1 h3 o (Array.mem_toList_iff.2 (Array.mem_of_getElem? ho))
  simpa using this
 have key:wpAny P .any ops (fun e a1 w1=>e=.normal∧ ∃ι1,Out P H ι w H1 ι1 w1∧FrR H1.D ι1 fn.ntmps fr1 a1.tmps∧a1.defers=a.defers) ops.size (Array.replicate ops.size false) a { w with drawn:=w.drawn+1 } :=by
  unfold ldraw at hl
  unfold drawOk at h1
  rw [Bool.and_eq_true]at h1
  letI:Cvt:=⟨E.pl.cv⟩
  exact chain_anyP hT h1.1 h1.2 hl h.rel h.fr (fun ι' a' w' ho hf hd=>⟨rfl,ι',ho,hf,hd⟩)
 have hops:=wpAny_sound ops.size (w.tape w.drawn (.order b.fn id)) _ a _ key
 have hst:=stepR_region_draw (P:=P) (b:=b) (a:=a) (k:=k) (cs:=cs) (w:=w) (ops:=ops) (id:=id)
 simp only [Region.schedule,hm,Bool.true_or,if_true]at hst
 obtain⟨a1,w1,⟨ι1,ho,hf,hd⟩,hs⟩:=wp_opsR (b:=b) (k:=k) (cs:=cs) hnd _ a _ hops
 refine post_out h.rel (.head hst hs) ho (ih ι1 b a1 w1 cs B X Z (h.out ho hf ?_ h2))
 rw [hd];exact h.marks.out (X:=none) (Z:=fun _=>False) ho.x h.rel (by simp) (fun _ h=>h.elim)
theorem sound_drawc {id:Nat} {l:List Oper} {o:Oper} {prs:List (Nat×Nat)} (hT:TOk P (LC P E.E)) (hm:P.follows .mixedOrders=true) (hB:@mixC ⟨E.pl.cv⟩ ⟨l⟩ prs=true) (hl:lastB l o=true)
  (hc:@lchain ⟨E.pl.cv⟩ P (LC P E.E) fn.ntmps ⟨l⟩ prs 0 (fun _=>(fr,H)) l fr H=some (fr1,H1)) (ih:SoundW P E (.ops Y 3 fn ⟨l++ [o]⟩ [o] k fr1 H1 p Q)):SoundW P E (.run Y 3 fn (.code (.region id ⟨l++ [o]⟩ true)::k) fr H p Q):=by
 intro ι b a w cs B X Z h
 obtain⟨h1,h2⟩:=head_ok h.items
 simp only [itemOkR,codeOkR,Bool.and_eq_true]at h1
 obtain⟨h1,h3⟩:=h1
 have hlk:=lastB_spec hl
 have hnd: ∀(i:Nat) (x:Oper),(⟨l++ [o]⟩:Array Oper)[i]?=some x→isDefer x.op=false:=fun i x hx=>by
  have:=List.all_eq_true.1 h3 x (Array.mem_toList_iff.2 (Array.mem_of_getElem? hx))
  simpa using this
 letI:Cvt:=⟨E.pl.cv⟩
 have hback: ∀i x,(⟨l⟩:Array Oper)[i]?=some x→ ∀e∈x.after,Region.binds .any e=true→e.on<i:=fun i x hx e he hb=>by
  unfold mixC at hB
  simp only [Bool.and_eq_true]at hB
  have hi:=(Array.getElem?_eq_some_iff.1 hx).1
  have:=List.all_eq_true.1 hB.1.1.1 i (List.mem_range.2 hi)
  simp only [hx]at this
  have:=List.all_eq_true.1 this e (Array.mem_toList_iff.2 he)
  rw [hb]at this
  simpa using this
 have key:wpAny P .any ⟨l⟩ (fun e a1 w1=>e=.normal∧ ∃ι1,Out P H ι w H1 ι1 w1∧FrR H1.D ι1 fn.ntmps fr1 a1.tmps∧a1.defers=a.defers) (⟨l⟩:Array Oper).size (Array.replicate (⟨l⟩:Array Oper).size false) a { w with drawn:=w.drawn+1 } :=
  chain_any hT hB hc h.rel h.fr (fun ι' a' w' ho hf hd=>⟨rfl,ι',ho,hf,hd⟩)
 have hops:=wpAny_sound (⟨l⟩:Array Oper).size (w.tape w.drawn (.order b.fn id)) _ a _ key
 have hops2:=big_ops hlk _ _ _ (fun i hi=>go_lt _ _ _ i hi) hops
 have hst:=stepR_region_draw (P:=P) (b:=b) (a:=a) (k:=k) (cs:=cs) (w:=w) (ops:=⟨l++ [o]⟩) (id:=id)
 simp only [Region.schedule,hm,Bool.true_or,if_true]at hst
 obtain⟨a1,w1,⟨ι1,ho,hf,hd⟩,hs⟩:=wp_opsR2 (b:=b) (k:=k) (cs:=cs) (r:= [l.length]) hnd _ a _ hops2
 rw [show Region.linearise .any ⟨l++ [o]⟩ (w.tape w.drawn (.order b.fn id))=Region.linearise.go .any ⟨l⟩ l.length (w.tape w.drawn (.order b.fn id)) (Array.replicate l.length false) []++ [l.length] by
  unfold Region.linearise
  rw [show(⟨l++ [o]⟩:Array Oper).size=l.length+1 by simp,Array.replicate_succ]
  refine lin_last hlk hback _ _ _ (by simp) (fun j x hx hlj=>?_) ?_
  ·unfold LS at hlj
   have hj:=(Array.getElem?_eq_some_iff.1 hx).1
   have hj:j<l.length:=hj
   simp [hj]at hlj
  ·unfold undone
   refine Nat.le_trans List.countP_le_length ?_
   simp]at hst
 refine post_out h.rel (.head hst hs) ho ?_
 have:=ih l.length ι1 b a1 w1 cs B X Z (by simp) (by simp) (h.out ho hf (by rw [hd];exact h.marks.out (X:=none) (Z:=fun _=>False) ho.x h.rel (by simp) (fun _ h=>h.elim)) h2)
 rw [show(⟨l++ [o]⟩:Array Oper).size-l.length=1 by simp]at this
 exact this
theorem round_frame {l:Nat} {f:FuncId} {tmps:Array Value} {assign body:Code} :Frame.round l f tmps assign body .normal=({ (default:Frame)with fn:=f,kind:=.normal,roundOf:=some l } :Frame).atR { tmps:=tmps,defers:= [] } [.code assign,.beginRound,.code body]:=by
 simp [Frame.round,Frame.atR]
theorem sound_oyield {yc:YC} {x:Operand} {args:Array Operand} {ts:Array TypeId} {it:Option ItC} {Q1:PQ} {fr2:Value→Fr} (hw:lwant all fr o=some true) (hop:o.op=.call ⟨.value x,args,ts⟩) (hx:ev fr x=tok yc.l) (hsz:args.size=yc.params.length) (hN: ∀d∈yc.params,d<yc.fn.ntmps)
  (ihr:SoundW P E (.run none 1 yc.fn [.code yc.assign,.beginRound,.code yc.body] (setL yc.fr (yc.params.zip (args.toList.map (ev fr)))) H st0 Q1)) (hjq: ∀r H1 p1,Q1 r H1 p1→ ∃j,r=.jump j) (hput: ∀b,lput fn.ntmps fr o.dst (.bool b)=some (fr2 (.bool b)))
  (ih: ∀(j:Option Code) H1 p1,Q1 (.jump j) H1 p1→SoundW P E (.ops (some yc) 0 fn all os k (fr2 (.bool j.isNone)) H1 ⟨j,it⟩ Q)):SoundW P E (.ops (some yc) 0 fn all (o::os) k fr H ⟨none,it⟩ Q):=by
 intro m ι b a w cs B X Z hos hm h
 obtain⟨hlt,hget,hos',hr⟩:=drop_cons hos
 rw [hr]
 have hxv:=h.fr.ev x
 rw [hx]at hxv
 obtain⟨ex,hD⟩:=vr_tok hxv
 obtain⟨_,⟨okj,okA,okB⟩,rc,y1,y2,y3,y4,y5,y6,y7,y8⟩:=h.yat
 have hX:=h.yx yc rfl
 have hst0:rc.state=.ready:=by simpa using y8
 have hlen:(args.map a.eval).size=rc.params.size:=by
  rw [Array.size_map,hsz,←y2];simp
 have hrun:(execOp a.eval o).run P w=.ok (.round (ι yc.l).blk rc.fn ((rc.params.zip (args.map a.eval)).foldl (fun tmps (t,v)=>tmps.setIfInBounds t v) rc.tmps) rc.assign rc.body) w:=by
  unfold execOp
  simp only [hop,resolve,ex,Deferred.ofValue,Sem.run_bind,Sem.run_pure,Result.andThen_ok,invoke]
  rw [show(#[]++args.map a.eval:Array Value)=args.map a.eval by simp]
  exact run_yield y1 hlen
 let tm:Array Value:=(rc.params.zip (args.map a.eval)).foldl (fun tmps (t,v)=>tmps.setIfInBounds t v) rc.tmps
 let c0:Frame:=b.atR a (.inRegion all (m::List.range' (m+1) (all.size-(m+1)))::k)
 let b':Frame:= { (default:Frame)with fn:=rc.fn,kind:=.normal,roundOf:=some (ι yc.l).blk }
 have hg:=stepGR_op (P:=P) (b:=b) (k:=k) (cs:=cs) (w:=w) (rest:=List.range' (m+1) (all.size-(m+1))) hget (want_eq h.fr hw)
 rw [Oper.semAt_eq _ _ _ (not_defer (by rw [hop];rfl))]at hg
 have hs0:step P (lone c0 cs w)=.next (lone (b'.atR { tmps:=tm,defers:= [] } [.code rc.assign,.beginRound,.code rc.body]) (c0::cs) w):=by
  rw [←round_frame]
  exact step_lone_go (by rw [hg];simp [stepG.apply,hrun,tm,c0])
 have hnd: ¬(ι yc.l).blk<H.ng:=(h.xok _ hX).2
 rw [y3,y4]at hs0
 have htm:FrR H.D ι yc.fn.ntmps (setL yc.fr (yc.params.zip (args.toList.map (ev fr)))) tm:=by
  obtain⟨h2,h3⟩:=args_rel h.fr args
  have:=setL_rel yc.params (args.toList.map (ev fr)) (args.map a.eval).toList yc.fr rc.tmps y6 hN (by first|(simp;done)|simpa using h2) (fun i x y hx hy=>h3 i x y hx (by simpa using hy))
  have e:tm=(yc.params.zip (args.map a.eval).toList).foldl (fun t (d,v)=>t.setIfInBounds d v) rc.tmps:=by
   show(rc.params.zip (args.map a.eval)).foldl _ _=_
   rw [←Array.foldl_toList,Array.toList_zip,y2]
  rw [e];exact this
 obtain⟨r1,H1,p1,hq1,hpost⟩:=ihr ι b' { tmps:=tm,defers:= [] } w (c0::cs) w.heap.size (some (ι yc.l).blk) (fun _=>False)
  ⟨cons_ok okA (cons_ok rfl (cons_ok okB (by simp))),h.rel,htm,y5,rfl,(fun _ h=>by cases h),(fun q hq=>by injection hq with hq;subst hq;exact⟨⟨rc,y1⟩,hnd⟩),(fun _ h=>h.elim),(fun _ h=>by cases h),(fun h=>by cases h),fun _=>⟨rfl,_,c0,cs,rc,rfl,rfl,rfl,rfl,y1,fun _=>hst0⟩,trivial,Nat.le_refl _,ng_le h.rel⟩
 obtain⟨j,rfl⟩:=hjq _ _ _ hq1
 obtain⟨ι1,w1,ho,_,⟨_,hj⟩,lr,c,cs0,e1,e2,hs1,hrec⟩:=hpost
 injection e1 with e1
 injection e2 with e2 e3
 subst e1 e2 e3
 have hfin:c0.finish (.bool j.isNone)=b.atR (a.put o.dst (.bool j.isNone)) (.inRegion all (List.range' (m+1) (all.size-(m+1)))::k):=by
  show(b.atR a (.inRegion all (m::List.range' (m+1) (all.size-(m+1)))::k)).finish _=_
  rw [Frame.finish_atR,hget];rfl
 rw [hfin]at hs1
 have hrec1:=hrec rc y1
 have hsame:ι1 yc.l=ι yc.l:=ho.same _ hD
 have hoX:OutX P X Z H ι w H1 ι1 w1:=by
  rw [hX]
  exact⟨ho.rel,ho.n,ho.sub,ho.same,ho.chg.mono (fun _ _ h=>h.imp id (fun h=>h.imp id False.elim)),ho.rw,ho.img,ho.ng⟩
 refine post_step (.head hs0 hs1) hoX (fun e=>by cases e) (ih j H1 p1 hq1 (m+1) ι1 b _ w1 cs B X Z hos' hlt ⟨h.items,ho.rel,(h.fr.mono ho.sub ho.same).put (hput _) (.flat _ rfl),h.fn,⟨ho.sub _ hD,⟨hj,okA,okB⟩,{ rc with state:=if j.isNone then .ready else .done,pending:=j },by rw [hsame];exact hrec1,y2,y3,y4,y5,y6.mono ho.sub ho.same,rfl,rfl⟩,fun yc' hy=>?_,fun q hq=>?_,fun q hq=>?_,fun c hc=>?_,h.rd0,fun h=>absurd rfl h,?_,Nat.le_trans h.hB ho.chg.size,by rw [ho.ng];exact h.hng⟩)
 ·injection hy with hy;subst hy;rw [hsame];exact hX
 ·rw [hX]at hq;injection hq with hq;subst hq;exact⟨⟨_,hrec1⟩,by rw [ho.ng];exact hnd⟩
 ·obtain⟨⟨m,s,n,c,g1⟩,g2⟩:=h.zok q hq
  exact⟨⟨m,s,n,c,ho.keep h.rel g1 nocell_iter (fun e=>by injection e with e;rw [e,g1]at y1;cases y1) (fun h=>h)⟩,by rw [ho.ng];exact g2⟩
 ·obtain⟨g1,g2,g3,g4,g5,g6⟩:=h.itok c hc
  rw [ho.same _ g2,ho.same _ g5]
  exact⟨g1,ho.sub _ g2,g3,ho.keep h.rel g4 nocell_iter (fun e=>by injection e with e;rw [e,g4]at y1;cases y1) (fun h=>h),ho.sub _ g5,g6⟩
 ·rw [put_defers];exact h.marks.out hoX h.rel h.xl h.zl
theorem sound_range {x:Operand} {params:Array Tmp} {assign body:Code} {g:FuncId} {caps:Array Value} {gfn:Func} {gc:Code} {Q1:PQ} (hx:ev fr x=.func (.func g) #[] caps) (hf:fnOk P E g gfn gc (tok H.n::caps.toList))
  (ihg:SoundW P E (.run (some ⟨H.n,fn,fr,params.toList,assign,body⟩) 0 gfn [.code gc] (enter (tok H.n::caps.toList)) H.dead st0 Q1)) (hrq: ∀r H1 p1,Q1 r H1 p1→ ∃v,r=.ret v) (ih: ∀v H1 (p1:St),Q1 (.ret v) H1 p1→SoundW P E (.run Y rd fn ((p1.pd.map Item.code).toList++k) fr H1 p Q)):
  SoundW P E (.run Y rd fn (.code (.rangeFunc x params assign body)::k) fr H p Q):=by
 intro ι b a w cs B X Z h
 obtain⟨hx1,hx2⟩:=head_ok h.items
 have hok:codeOkR E.pl fn.ntmps assign=true∧codeOkR E.pl fn.ntmps body=true:=by simpa [itemOkR,codeOkR]using hx1
 obtain⟨l,mark,w1,dd,he,hl1,hc1,hl0,hmk⟩:=enter_loop h params assign body
 obtain⟨g1,g2,g3,g4,g5⟩:=hf
 have hE:Entered P g:=⟨gfn,g1,by rw [g2];rfl,g4⟩
 have hxv:=h.fr.ev x
 rw [hx]at hxv
 obtain⟨f',c',e,k1,k2,_,k4⟩:=vr_func hxv
 have ef:f'=#[]:=Array.eq_empty_of_size_eq_zero k1.symm
 subst ef
 have hres:(resolve a.eval (rangeCall x l) 0).run P w1=.ok { target:=.fn (.func g) c',args:=#[.func (.yield l) #[] #[]] } w1:=by
  simp only [resolve,rangeCall,e,Deferred.ofValue,Sem.run_pure]
  simp [Act.eval]
 obtain⟨ar,har⟩: ∃z:Array Value,z=#[.func (.yield l) #[] #[]]++c':=⟨_,rfl⟩
 have hinv:(invoke (.fn (.func g) c') #[.func (.yield l) #[] #[]]).run P w1=.ok (.enter g ar) w1:=by
  simp only [invoke]
  rw [har]
  exact enter_run hE _
 have hstep:=stepR_rangeFunc (P:=P) (k:=k) (cs:=cs) he hres hinv
 let c0:Frame:=b.atR { a with defers:=mark++a.defers } (.inRangeFunc l::k)
 let b1:Frame:= { (default:Frame)with fn:=g,kind:=.normal }
 obtain⟨a1,ha1⟩: ∃z:Act,z= { tmps:=ar++Array.replicate (gfn.ntmps-ar.size) undef,defers:= [] } :=⟨_,rfl⟩
 have henter:Frame.enter P g ar .normal=b1.atR a1 [.code gc]:=by rw [ha1];simp [Frame.enter,Frame.atR,g1,g2,b1];rfl
 rw [henter]at hstep
 obtain⟨ι1,hι1⟩: ∃z:Ren,z=ι.add H.n ⟨l,0,0⟩:=⟨_,rfl⟩
 have hrel1:Rel P H.dead ι1 w1:=by rw [hι1];exact rel_dead h.rel hc1
 have hsub1: ∀l,H.D l→H.dead.D l:=fun l hl=>⟨Nat.lt_succ_of_lt hl.1,hl.2⟩
 have hsame1: ∀l,H.D l→ι1 l=ι l:=fun q hq=>by rw [hι1];unfold Ren.add;rw [if_neg (Nat.ne_of_lt hq.1)]
 have hDn:H.dead.D H.n:=⟨Nat.lt_succ_self _,h.rel.top⟩
 have hin:(ι1 H.n).blk=l:=by rw [hι1];unfold Ren.add;rw [if_pos rfl]
 have hargs:FrR H.dead.D ι1 gfn.ntmps (enter (tok H.n::caps.toList)) a1.tmps:=by
  rw [ha1]
  refine enter_rel (args':=ar) (by rw [har];simp;omega) (fun i x y hx hy=>?_) g3
  rw [har]at hy
  cases i with
  |zero=>
   simp at hx hy
   subst hx
   have:y=.func (.yield l) #[] #[]:=by
    have h0:(#[.func (.yield l) #[] #[]]++c':Array Value)[0]?=some (.func (.yield l) #[] #[]):=by rw [Array.getElem?_append];simp
    rw [h0]at hy;injection hy with hy;exact hy.symm
   subst this
   have hh:=VR.yld (n:=H.dead.D) (ι:=ι1) H.n hDn
   rwa [hin]at hh
  |succ i=>
   have hx':caps[i]?=some x:=by simpa using hx
   have hy':c'[i]?=some y:=by
    rw [Array.getElem?_append]at hy
    simpa using hy
   exact(k4 i x y hx' hy').mono hsub1 hsame1
 have hltl:l<w1.heap.size:=(Array.getElem?_eq_some_iff.1 hl1).1
 have hngw:=ng_le h.rel
 obtain⟨r1,H1,p1,hq1,hpost⟩:=ihg ι1 b1 a1 w1 (c0::cs) w1.heap.size (some l) (fun _=>False)
  ⟨cons_ok g5 (by simp),hrel1,hargs,g1,⟨hDn,⟨(fun c h=>by cases h),hok.1,hok.2⟩,_,by rw [hin];exact hl1,rfl,rfl,rfl,h.fn,h.fr.mono hsub1 hsame1,rfl,rfl⟩,(fun yc hy=>by injection hy with hy;subst hy;rw [hin]),(fun q hq=>by injection hq with hq;subst hq;exact⟨⟨_,hl1⟩,by show¬l<H.ng;omega⟩),(fun _ h=>h.elim),(fun _ h=>by cases h),fun _=>rfl,(fun h=>absurd rfl h),(by rw [ha1];trivial),Nat.le_refl _,by have:H.dead.ng=H.ng:=rfl;have:=hc1.size;omega⟩
 obtain⟨v,rfl⟩:=hrq _ _ _ hq1
 obtain⟨ι2,w2,ho2,hy2,a',t',fr',s1,mk1,fr1,res1⟩:=hpost
 obtain⟨w3,s2,c3⟩:=marks_steps (P:=P) (cs:=c0::cs) a'.defers { b1.atR a' t' with mode:=.returning } w2 (by simp) rfl mk1
 have hng2:H1.ng=H.ng:=ho2.ng
 have hrel3:Rel P H1 ι2 w3:=rel_off ho2.rel c3 (fun q hq=>by
  refine⟨fun hi=>?_,by rw [hng2];have:=hc1.size;have:=hq.1;omega⟩
  obtain⟨_,hw,hq9⟩:=img_cells ho2.rel hi
  rw [hq.2]at hw;cases hw;cases hq9)
 obtain⟨v',hr3,_⟩:=results_ok hrel3 fr1 res1
 have s3:step P (lone { b1.atR { a' with defers:= [] } t' with mode:=.returning } (c0::cs) w3)=.next (lone (c0.finish v') cs w3):=step_leave_returned ⟨rfl,rfl,rfl,gfn,g1,hr3⟩
 have efin:c0.finish v'=b.atR { a with defers:=mark++a.defers } (.endRangeFunc l::k):=finish_atR_inRangeFunc l v'
 rw [efin]at s3
 obtain⟨hD2,⟨okj,_,_⟩,rc,y1,_,_,_,_,_,y7,y8⟩:=hy2
 have hi2:(ι2 H.n).blk=l:=by rw [ho2.same _ hDn];exact hin
 simp only [hi2]at y1
 have hl3:w3.heap[l]?=some (.loop rc):=by
  rw [c3.block l (Array.getElem?_eq_some_iff.1 y1).1 (fun hq=>by have:=hq.2;rw [y1]at this;cases this)];exact y1
 have hbusy:rc.state≠.busy:=by rw [y8];split<;>simp
 have s4:=stepR_endRangeFunc (P:=P) (b:=b) (a:= { a with defers:=mark++a.defers }) (k:=k) (cs:=cs) (run_endLoop (P:=P) hl3 hbusy)
 have y7':rc.pending=p1.pd:=y7
 have hi3: ¬Img H1 ι2 l:=fun hi=>by
  obtain⟨_,hw,hq9⟩:=img_cells hrel3 hi
  rw [hl3]at hw;cases hw;cases hq9
 have hrel4:Rel P H1 ι2 (w3.putObj l (.loop { rc with state:=.exhausted })):=rel_off hrel3 change_put (fun q hq=>by subst hq;exact⟨hi3,by rw [hng2];omega⟩)
 obtain⟨w4,hw4⟩: ∃z,z=w3.putObj l (.loop { rc with state:=.exhausted }):=⟨_,rfl⟩
 rw [←hw4]at hrel4 s4
 rw [y7']at s4
 have c4:Change (fun k=>k=l) w3 w4:=by rw [hw4];exact change_put
 have hout:Out P H ι w H1 ι2 w4:=by
  refine⟨hrel4,Nat.le_trans (Nat.le_succ _) ho2.n,fun q hq=>ho2.sub _ (hsub1 q hq),fun q hq=>(ho2.same _ (hsub1 q hq)).trans (hsame1 q hq),?_,fun q hq=>?_,fun q hq=>?_,hng2⟩
  ·refine Change.trans (T:=fun k=>k=l) (Change.trans (Change.trans (hc1.mono (fun _ _ h=>h.elim)) ho2.chg (fun q hq=>?_)) c3 (fun q hq=>.inr (Nat.le_trans hc1.size hq.1))) c4 (fun q hq=>by subst hq;exact .inr hl0)
   rcases hq with hq|hq|hq
   ·exact .inl (rw_dead h.rel (by rw [hι1]at hq;exact hq))
   ·injection hq with hq;subst hq;exact .inr hl0
   ·exact hq.elim
  ·rcases ho2.rw q hq with h1|h1
   ·exact .inl (rw_dead h.rel (by rw [hι1]at h1;exact h1))
   ·exact .inr (Nat.le_trans hc1.size h1)
  ·rcases ho2.img q hq with h1|h1
   ·exact .inl (img_dead h.rel (by rw [hι1]at h1;exact h1))
   ·exact .inr (Nat.le_trans hc1.size h1)
 refine post_out h.rel (.head hstep (Steps.trans s1 (Steps.trans s2 (.head s3 (.one s4))))) hout (ih _ _ _ hq1 ι2 b { a with defers:=mark++a.defers } w4 cs B X Z (h.out hout (h.fr.mono hout.sub hout.same) ?_ (fun z hz=>?_)))
 ·have mk1':Marks B w1 (mark++a.defers):=hmk
  refine mk1'.keep (fun q hq hqw _=>?_)
  have q1:q≠l:=fun e=>by subst e;rw [hl1]at hqw;cases hqw
  have q2:w2.heap[q]?=some (.deferred (some [])):=ho2.keep hrel1 hqw nocell_deferred (fun e=>by injection e with e;exact q1 e.symm) (fun h=>h)
  rw [hw4,World.putObj_heap_other q1,c3.block q (Array.getElem?_eq_some_iff.1 q2).1 (fun hh=>?_)]
  ·exact q2
  ·have:=(Array.getElem?_eq_some_iff.1 hqw).1
   have:=hh.1
   omega
 ·rcases List.mem_append.1 hz with hz|hz
  ·cases hpd:p1.pd with
   |none=>rw [hpd]at hz;cases hz
   |some c=>rw [hpd]at hz;simp at hz;subst hz;exact okj c hpd _ _
  ·exact hx2 z hz
theorem ents_to {n:Nat→Prop} {ι:Ren} : ∀ {cs:List Value} {es:List MapEntry},MpL n ι cs es→ ∀e∈es,∃x∈ents cs,x.1=e.key∧VR n ι x.2.1 e.val∧x.2.2=e.born
 | [],[],_,e,he=>by cases he
 |k::v::s::cs,f::es,⟨⟨h1,hv,h2⟩,h⟩,e,he=>by
  subst h1 h2
  rcases List.mem_cons.1 he with rfl|he
  ·exact⟨_,List.mem_cons_self ..,rfl,hv,rfl⟩
  ·obtain⟨x,hx,g⟩:=ents_to h e he
   exact⟨x,List.mem_cons_of_mem _ hx,g⟩
 | [],_::_,h,_,_=>by simp [MpL]at h
 | [_],_,h,_,_=>by simp [MpL]at h
 | [_,_],_,h,_,_=>by simp [MpL]at h
 |_::_::_::_,[],h,_,_=>by simp [MpL]at h
theorem ents_from {n:Nat→Prop} {ι:Ren} : ∀ {cs:List Value} {es:List MapEntry},MpL n ι cs es→ ∀x∈ents cs,∃e∈es,x.1=e.key∧VR n ι x.2.1 e.val∧x.2.2=e.born
 | [],[],_,x,hx=>by cases hx
 |k::v::s::cs,f::es,⟨⟨h1,hv,h2⟩,h⟩,x,hx=>by
  subst h1 h2
  rcases List.mem_cons.1 (show x∈(_,v,_)::ents cs from hx)with rfl|hx
  ·exact⟨f,List.mem_cons_self ..,rfl,hv,rfl⟩
  ·obtain⟨e,he,g⟩:=ents_from h x hx
   exact⟨e,List.mem_cons_of_mem _ he,g⟩
 | [],_::_,h,_,_=>by simp [MpL]at h
 | [_],_,h,_,_=>by simp [MpL]at h
 | [_,_],_,h,_,_=>by simp [MpL]at h
 |_::_::_::_,[],h,_,_=>by simp [MpL]at h
theorem sound_orange {pd:Option Code} {it:Option ItC} {t:TypeId} {m:Nat} {b0:LB} (hw:lwant all fr o=some true) (hop: ∃x,o.op=.range t x∧ev fr x=.map (some m)) (hu: ∃kt et,P.underlying t=some (.map kt et)) (hb:H.get m=some b0) (hput:lput fn.ntmps fr o.dst (.pointer (some ⟨H.n,0,none⟩))=some fr1)
  (ih:SoundW P E (.ops Y rd fn all os k fr1 H.dead ⟨pd,some ⟨H.n,m,b0.elem,[]⟩⟩ Q)):SoundW P E (.ops Y rd fn all (o::os) k fr H ⟨pd,it⟩ Q):=by
 intro mm ι b a w cs B X Z hos hm h
 obtain⟨hlt,hget,hos',hr⟩:=drop_cons hos
 rw [hr]
 obtain⟨x,hop,hx⟩:=hop
 obtain⟨kt,et,hu⟩:=hu
 have hv:=h.fr.ev x
 rw [hx]at hv
 obtain⟨ex,hl,h0⟩:=vr_map hv
 obtain⟨es,g1,g2,g3⟩:=h.rel.map hb h0
 obtain⟨w1,hw1⟩: ∃w1,w1=w.alloc (.mapIter (some (ι m).blk) b0.elem #[] b0.elem):=⟨_,rfl⟩
 have hrun:(execOp a.eval o).run P w=.ok (.value (.pointer (some ⟨w.heap.size,0,none⟩))) w1:=by
  unfold execOp
  rw [hop]
  simp only [Instr.range,ex,Sem.run_bind,run_underlying hu,Result.andThen_ok,MapKept.run_getObj_map g1,Sem.run_pure,run_newObj_alloc]
  rw [hw1]
 obtain⟨a1,w2,⟨ha,hw2⟩,hs⟩:=step_opR1 (P:=P) (b:=b) (k:=k) (cs:=cs) (rest:=List.range' (mm+1) (all.size-(mm+1))) (K:=fun a1 w2=>a1=a.put o.dst (.pointer (some ⟨w.heap.size,0,none⟩))∧w2=w1) hget (want_eq h.fr hw) (by rw [hop];rfl)
  (by unfold Oper.wp;rw [hrun];exact⟨rfl,rfl⟩)
 subst hw2
 have hc1:Change (fun _=>False) w w2:=by rw [hw1];exact change_alloc
 have hnew:w2.heap[w.heap.size]?=some (.mapIter (some (ι m).blk) b0.elem #[] b0.elem):=by rw [hw1];exact World.alloc_heap_new w _
 obtain⟨ι1,hι1⟩: ∃z:Ren,z=ι.add H.n ⟨w.heap.size,0,0⟩:=⟨_,rfl⟩
 have hrel1:Rel P H.dead ι1 w2:=by rw [hι1];exact rel_dead h.rel hc1
 have hsub1: ∀l,H.D l→H.dead.D l:=fun l hl=>⟨Nat.lt_succ_of_lt hl.1,hl.2⟩
 have hsame1: ∀l,H.D l→ι1 l=ι l:=fun q hq=>by rw [hι1];unfold Ren.add;rw [if_neg (Nat.ne_of_lt hq.1)]
 have hDn:H.dead.D H.n:=⟨Nat.lt_succ_self _,h.rel.top⟩
 have hin:ι1 H.n=⟨w.heap.size,0,0⟩:=by rw [hι1];unfold Ren.add;rw [if_pos rfl]
 have hold: ∀q o,w.heap[q]?=some o→w2.heap[q]?=some o:=fun q o hq=>by rw [hc1.block q (Array.getElem?_eq_some_iff.1 hq).1 (fun h=>h)];exact hq
 have hout:OutX P X Z H ι w H.dead ι1 w2:=⟨hrel1,Nat.le_succ _,hsub1,hsame1,hc1.mono (fun _ _ h=>h.elim),fun q hq=>.inl (by rw [hι1]at hq;exact rw_dead h.rel hq),fun q hq=>.inl (by rw [hι1]at hq;exact img_dead h.rel hq),rfl⟩
 have hng:=ng_le h.rel
 obtain⟨r,H',p',q,hpost⟩:=ih (mm+1) ι1 b a1 w2 cs B X (fun k=>Z k∨k=w.heap.size) hos' hlt
  ⟨h.items,hrel1,by
   rw [ha]
   have hv1:=VR.ptr (n:=H.dead.D) (ι:=ι1) H.n 0 hDn (by rw [hin])
   rw [hin]at hv1
   exact(h.fr.mono hsub1 hsame1).put hput hv1,h.fn,by
   have hy:=h.yat
   unfold YAt at hy⊢
   cases Y with
   |none=>exact hy
   |some yc=>
    obtain⟨y1,y0,rc,y2,y3,y4,y5,y6,y7,y8,y9⟩:=hy
    refine⟨hsub1 _ y1,y0,rc,?_,y3,y4,y5,y6,y7.mono hsub1 hsame1,y8,y9⟩
    rw [hsame1 _ y1]
    exact hold _ _ y2,fun yc hy=>by
   have hD:H.D yc.l:=by have:=h.yat;unfold YAt at this;rw [hy]at this;exact this.1
   rw [hsame1 _ hD];exact h.yx yc hy,fun q hq=>by
   obtain⟨⟨rc,q1⟩,q2⟩:=h.xok q hq
   exact⟨⟨rc,hold _ _ q1⟩,q2⟩,fun q hq=>by
   rcases hq with hq|rfl
   ·obtain⟨⟨m,s,n,c,q1⟩,q2⟩:=h.zok q hq
    exact⟨⟨m,s,n,c,hold _ _ q1⟩,q2⟩
   ·exact⟨⟨_,_,_,_,hnew⟩,by show¬w.heap.size<H.ng;omega⟩,fun c hc=>by
   injection hc with hc
   subst hc
   simp only
   rw [hin,hsame1 _ hl]
   exact⟨.inr rfl,hDn,rfl,hnew,hsub1 _ hl,h0⟩,h.rd0,fun hr=>by
   obtain⟨h1,lr,c,cs0,rc,h2,h3,h4,h5,h6,h7⟩:=h.rd1 hr
   exact⟨h1,lr,c,cs0,rc,h2,h3,h4,h5,hold _ _ h6,h7⟩,by
   rw [ha,put_defers];exact h.marks.out (X:=none) (Z:=fun _=>False) (out_change h.rel hc1).x h.rel (by simp) (fun _ h=>h.elim),Nat.le_trans h.hB hc1.size,h.hng⟩
 exact⟨r,H',p',q,post_stepZ hs hout (fun _ q rc _ hq=>⟨rc.state,hold _ _ hq⟩) (fun k hk=>hk.imp id (fun e=>by omega)) hpost⟩
theorem sound_onext {pd:Option Code} {c:ItC} {b0:LB} {fr2:Value→Fr} (hw:lwant all fr o=some true) (hop: ∃x,o.op=.next x false∧ev fr x=.pointer (some ⟨c.l,0,none⟩)) (hb:H.get c.m=some b0) (he:b0.elem=c.since) (hput: ∀v,lput fn.ntmps fr o.dst v=some (fr2 v)) (hfl: ∀e∈ents b0.cells,flatB e.1=true)
  (ih1:(∀e∈ents b0.cells,e.2.2∈c.seen)→SoundW P E (.ops Y rd fn all os k (fr2 (.tuple #[.bool false])) H ⟨pd,some c⟩ Q))
  (ih2: ∀e∈ents b0.cells,e.2.2∉c.seen→SoundW P E (.ops Y rd fn all os k (fr2 (.tuple #[.bool true,e.1,e.2.1])) H ⟨pd,some ⟨c.l,c.m,c.since,c.seen++ [e.2.2]⟩⟩ Q)):SoundW P E (.ops Y rd fn all (o::os) k fr H ⟨pd,some c⟩ Q):=by
 intro mm ι b a w cs B X Z hos hm h
 obtain⟨hlt,hget,hos',hr⟩:=drop_cons hos
 rw [hr]
 obtain⟨x,hop,hx⟩:=hop
 obtain⟨z1,z2,z3,z4,z5,z6⟩:=h.itok c rfl
 have hv:=h.fr.ev x
 rw [hx]at hv
 have ex:a.eval x=.pointer (some ⟨(ι c.l).blk,0,none⟩):=by
  have:=(vr_ptr hv).2
  rw [z3]at this
  exact this
 obtain⟨es,g1,g2,g3⟩:=h.rel.map hb z6
 have hzn:=(h.zok _ z1).2
 have hni:=no_img h.rel z4 nocell_iter
 have hexec: ∀(v:Value) (w1:World),(Instr.next (.pointer (some ⟨(ι c.l).blk,0,none⟩)) false o.type).run P w=.ok v w1→(execOp a.eval o).run P w=.ok (.value v) w1:=fun v w1 hv=>by
  unfold execOp
  simp only [hop,ex,Sem.run_bind,hv,Result.andThen_ok,Sem.run_pure]
 rcases run_next_at (P:=P) w o.type (ι c.l).blk (ι c.m).blk c.since c.since c.seen.toArray es b0.elem z4 g1 (by rw [←he];exact g2.1) (Nat.le_refl _)with⟨h0,hrun⟩|⟨e,hme,w1,hw1,hrun⟩
 ·have hall: ∀x∈ents b0.cells,x.2.2∈c.seen:=fun x hx=>by
   obtain⟨e,he1,_,_,he2⟩:=ents_from g3 x hx
   rw [he2]
   have hemp:leftOf es c.seen.toArray=#[]:=Array.eq_empty_of_size_eq_zero h0
   unfold leftOf at hemp
   rw [Array.filter_eq_empty_iff]at hemp
   have:=hemp e (by simpa using he1)
   simpa using this
  obtain⟨a1,w2,⟨ha,hw2⟩,hs⟩:=step_opR1 (P:=P) (b:=b) (k:=k) (cs:=cs) (rest:=List.range' (mm+1) (all.size-(mm+1))) (K:=fun a1 w2=>a1=a.put o.dst (.tuple #[.bool false])∧w2=w) hget (want_eq h.fr hw) (by rw [hop];rfl)
   (by unfold Oper.wp;rw [hexec _ _ hrun];exact⟨rfl,rfl⟩)
  subst hw2
  exact ops_next h (Out.refl h.rel) (.flat _ rfl) (hput _) ha hs hos' hlt (ih1 hall)
 ·obtain⟨x',hx1,hx2,hx3,hx4⟩:=ents_to g3 e (by unfold leftOf at hme;simp at hme;simpa using hme.1)
  have hns:x'.2.2∉c.seen:=by
   rw [hx4]
   unfold leftOf at hme
   simp at hme
   exact hme.2
  have hkey:flatB e.key=true:=by rw [←hx2];exact hfl _ hx1
  obtain⟨w2,hw2⟩: ∃w2,w2=ChangeMaps.setBlock w1 (ι c.l).blk (.mapIter (some (ι c.m).blk) c.since (c.seen.toArray.push e.born) b0.elem):=⟨_,rfl⟩
  rw [←hw2]at hrun
  have hlt2:(ι c.l).blk<w.heap.size:=(Array.getElem?_eq_some_iff.1 z4).1
  have hheap:w1.heap=w.heap:=by rcases hw1 with rfl|rfl<;>rfl
  have hnew:w2.heap[(ι c.l).blk]?=some (.mapIter (some (ι c.m).blk) c.since (c.seen.toArray.push e.born) b0.elem):=by
   rw [hw2]
   show(w1.heap.setIfInBounds _ _)[_]?=_
   rw [hheap,Array.getElem?_setIfInBounds,if_pos rfl,if_pos hlt2]
  have hother: ∀q,q≠(ι c.l).blk→w2.heap[q]?=w.heap[q]?:=fun q hq=>by
   rw [hw2]
   show(w1.heap.setIfInBounds _ _)[_]?=_
   rw [hheap,Array.getElem?_setIfInBounds,if_neg (fun e=>hq e.symm)]
  have hc2:Change (fun k=>k=(ι c.l).blk) w w2:=by
   refine⟨?_,?_,?_,?_,fun k _ hk=>hother k hk⟩
   ·rw [hw2];rcases hw1 with rfl|rfl<;>rfl
   ·rw [hw2];rcases hw1 with rfl|rfl<;>rfl
   ·rw [hw2];rcases hw1 with rfl|rfl<;>rfl
   ·rw [hw2];show w.heap.size≤(w1.heap.setIfInBounds _ _).size;rw [hheap];simp
  have hout:OutX P X Z H ι w H ι w2:=outx_off h.rel hc2 (fun k hk=>by subst hk;exact⟨hni,hzn⟩) (fun k _ hk=>by subst hk;exact .inr z1)
  obtain⟨a1,w3,⟨ha,hw3⟩,hs⟩:=step_opR1 (P:=P) (b:=b) (k:=k) (cs:=cs) (rest:=List.range' (mm+1) (all.size-(mm+1))) (K:=fun a1 w3=>a1=a.put o.dst (.tuple #[.bool true,e.key,e.val])∧w3=w2) hget (want_eq h.fr hw) (by rw [hop];rfl)
   (by unfold Oper.wp;rw [hexec _ _ hrun];exact⟨rfl,rfl⟩)
  subst hw3
  have hvr:VR H.D ι (.tuple #[.bool true,x'.1,x'.2.1]) (.tuple #[.bool true,e.key,e.val]):=by
   refine .tuple _ _ rfl (fun i p q hp hq=>?_)
   match i with
   |0=>simp at hp hq;subst hp hq;exact .flat _ rfl
   |1=>simp at hp hq;subst hp hq;rw [hx2];exact .flat _ hkey
   |2=>simp at hp hq;subst hp hq;exact hx3
   |i+3=>simp at hp
  have hkeepL: ∀(q:Nat) (rc:Loop),w.heap[q]?=some (Obj.loop rc)→w3.heap[q]?=some (Obj.loop rc):=fun q rc hq=>by
   rw [hother q (fun e=>by rw [e,z4]at hq;cases hq)];exact hq
  refine post_step hs hout (fun _ q rc _ hq=>⟨rc.state,hkeepL _ _ hq⟩) (ih2 x' hx1 hns (mm+1) ι b a1 w3 cs B X Z hos' hlt
   ⟨h.items,hout.rel,by rw [ha];exact h.fr.put (hput _) hvr,h.fn,?_,h.yx,fun q hq=>?_,fun q hq=>?_,fun c' hc=>?_,h.rd0,fun hr=>?_,?_,Nat.le_trans h.hB hc2.size,h.hng⟩)
  ·have hy:=h.yat
   unfold YAt at hy⊢
   cases Y with
   |none=>exact hy
   |some yc=>
    obtain⟨y1,y0,rc,y2,y3⟩:=hy
    exact⟨y1,y0,rc,hkeepL _ _ y2,y3⟩
  ·obtain⟨⟨rc,q1⟩,q2⟩:=h.xok q hq
   exact⟨⟨rc,hkeepL _ _ q1⟩,q2⟩
  ·by_cases hq2:q=(ι c.l).blk
   ·subst hq2;exact⟨⟨_,_,_,_,hnew⟩,hzn⟩
   ·obtain⟨⟨m,s,n,cc,q1⟩,q2⟩:=h.zok q hq
    exact⟨⟨m,s,n,cc,by rw [hother q hq2];exact q1⟩,q2⟩
  ·injection hc with hc
   subst hc
   refine⟨z1,z2,z3,?_,z5,z6⟩
   rw [hnew,hx4,he]
   simp
  ·obtain⟨h1,lr,c0,cs0,rc,h2,h3,h4,h5,h6,h7⟩:=h.rd1 hr
   exact⟨h1,lr,c0,cs0,rc,h2,h3,h4,h5,hkeepL _ _ h6,h7⟩
  ·rw [ha,put_defers];exact h.marks.out hout h.rel h.xl h.zl
theorem sound_oentry {pd:Option Code} {c:ItC} {b0:LB} {e:Value×Value×Nat} {seen:List Nat} (hw:lwant all fr o=some true) (hop: ∃x,o.op=.entry x∧ev fr x=.pointer (some ⟨c.l,0,none⟩)) (hb:H.get c.m=some b0) (he:b0.elem=c.since) (hse:c.seen=seen++ [e.2.2]) (hmem:e∈ents b0.cells) (hfl:flatB e.1=true) (hput:lput fn.ntmps fr o.dst (.tuple #[e.1,e.2.1])=some fr1)
  (ih:SoundW P E (.ops Y rd fn all os k fr1 H ⟨pd,some c⟩ Q)):SoundW P E (.ops Y rd fn all (o::os) k fr H ⟨pd,some c⟩ Q):=by
 intro mm ι b a w cs B X Z hos hm h
 obtain⟨hlt,hget,hos',hr⟩:=drop_cons hos
 rw [hr]
 obtain⟨x,hop,hx⟩:=hop
 obtain⟨z1,z2,z3,z4,z5,z6⟩:=h.itok c rfl
 have hv:=h.fr.ev x
 rw [hx]at hv
 have ex:a.eval x=.pointer (some ⟨(ι c.l).blk,0,none⟩):=by
  have:=(vr_ptr hv).2
  rw [z3]at this
  exact this
 obtain⟨es,g1,g2,g3⟩:=h.rel.map hb z6
 obtain⟨f,hf1,hf2,hf3,hf4⟩:=ents_from g3 e hmem
 have hrun:=run_entry_at (P:=P) w (ι c.l).blk (ι c.m).blk c.since seen.toArray es b0.elem f (by rw [z4,hse,hf4,he];simp) g1 hf1 g2.2.1
 have hexec:(execOp a.eval o).run P w=.ok (.value (.tuple #[f.key,f.val])) w:=by
  unfold execOp
  simp only [hop,ex,Sem.run_bind,hrun,Result.andThen_ok,Sem.run_pure]
 obtain⟨a1,w2,⟨ha,hw2⟩,hs⟩:=step_opR1 (P:=P) (b:=b) (k:=k) (cs:=cs) (rest:=List.range' (mm+1) (all.size-(mm+1))) (K:=fun a1 w2=>a1=a.put o.dst (.tuple #[f.key,f.val])∧w2=w) hget (want_eq h.fr hw) (by rw [hop];rfl)
  (by unfold Oper.wp;rw [hexec];exact⟨rfl,rfl⟩)
 subst hw2
 refine ops_next h (Out.refl h.rel) ?_ hput ha hs hos' hlt ih
 refine .tuple _ _ rfl (fun i p q hp hq=>?_)
 match i with
 |0=>simp at hp hq;subst hp hq;rw [←hf2];exact .flat _ hfl
 |1=>simp at hp hq;subst hp hq;exact hf3
 |i+2=>simp at hp
theorem soundW (hT:TOk P (LC P E.E)) (hm:P.follows .mixedOrders=true) (hpx: ∀f s,E.px f=some s→ ∀args H r H',s args H r H'→Entered P f∧CallOkR P E.tF f args H r H') (hcat: ∀f,E.cat=some f→CatOk P E.tF f) {j:J} (h:W P E j):SoundW P E j:=by
 induction h with
 |@lc f args H v H' Q h2 h1 hq=>
  have h3:=(hT _ _ _ _ _ h1).call h2
  exact⟨h2,fun ι w args' hrel hl ha=>(h3 ι w args' hrel hl ha).mono (fun e w' ⟨ι',v',he,ho,hv⟩=>⟨_,_,ι',hq,⟨v',he,hv⟩,ho⟩)⟩
 |px h1 h2 hq=>exact⟨(hpx _ _ h1 _ _ _ _ h2).1,(hpx _ _ h1 _ _ _ _ h2).2.up hq⟩
 |body h1 _ hq ih=>exact sound_body h1 ih hq
 |body3 h1 _ hq ih=>exact sound_body h1 ih hq
 |trunc _ h1 ih=>exact sound_trunc ih h1
 |cat h1 _ h2 h3 _ ih=>exact sound_cat (hcat _ h1) ih h2 h3
 |nil0 h1 hq=>
  intro ι b a w cs B X Z h
  exact⟨_,_,_,hq,ι,w,OutX.refl h.rel,h.yat,a,[],_,.one (stepR_end (h.rd0 rfl)),h.marks,h.fr,h1⟩
 |ret0 h1 hq=>
  intro ι b a w cs B X Z h
  exact⟨_,_,_,hq,ι,w,OutX.refl h.rel,h.yat,a,_,_,.one (stepR_ret (h.rd0 rfl)),h.marks,h.fr,h1⟩
 |nil3 h1 hq=>
  intro ι b a w cs B X Z h
  exact⟨_,_,_,hq,ι,w,OutX.refl h.rel,h.yat,a,[],_,.one (stepR_end (h.rd0 rfl)),h.marks,h.fr,h1⟩
 |ret3 h1 hq=>
  intro ι b a w cs B X Z h
  exact⟨_,_,_,hq,ι,w,OutX.refl h.rel,h.yat,a,_,_,.one (stepR_ret (h.rd0 rfl)),h.marks,h.fr,h1⟩
 |nil1 hq=>exact sound_round (fun c h=>by cases h) hq (fun b a w w' c cs lr v h1 h2 h3=>stepR_round_end h1 h2 h3)
 |ret1 hq=>exact sound_round (fun c h L N=>by injection h with h;subst h;rfl) hq (fun b a w w' c cs lr v h1 h2 h3=>stepR_round_ret h1 h2 h3)
 |exit1 hx hq=>exact sound_round (fun c h L N=>by injection h with h;subst h;rfl) hq (fun b a w w' c cs lr v h1 h2 h3=>stepR_round_exit h1 h2 hx h3)
 |beg _ ih=>exact sound_beg ih
 |skip _ ih=>intro ι b a w cs B X Z h;exact post_one h.rel stepR_skip (ih ι b a w cs B X Z (h.same (head_ok h.items).2))
 |label _ ih=>intro ι b a w cs B X Z h;exact post_one h.rel stepR_label (ih ι b a w cs B X Z (h.same (head_ok h.items).2))
 |inBlock _ ih=>intro ι b a w cs B X Z h;exact post_one h.rel stepR_inBlock (ih ι b a w cs B X Z (h.same (head_ok h.items).2))
 |inScope _ ih=>intro ι b a w cs B X Z h;exact post_one h.rel (step_lone_go (by simp [stepG,stepG.exec,Frame.atR])) (ih ι b a w cs B X Z (h.same (head_ok h.items).2))
 |seq _ ih=>
  intro ι b a w cs B X Z h
  obtain⟨h1,h2⟩:=head_ok h.items
  simp only [itemOkR,codeOkR,Bool.and_eq_true]at h1
  exact post_one h.rel stepR_seq (ih ι b a w cs B X Z (h.same (cons_ok h1.1 (cons_ok h1.2 h2))))
 |block _ ih=>
  intro ι b a w cs B X Z h
  obtain⟨h1,h2⟩:=head_ok h.items
  exact post_one h.rel stepR_block (ih ι b a w cs B X Z (h.same (cons_ok h1 (cons_ok rfl h2))))
 |scope _ ih=>
  intro ι b a w cs B X Z h
  obtain⟨h1,h2⟩:=head_ok h.items
  exact post_one h.rel (step_lone_go (by simp [stepG,stepG.exec,Frame.atR])) (ih ι b a w cs B X Z (h.same (cons_ok h1 (cons_ok h1 h2))))
 |loop _ ih=>
  intro ι b a w cs B X Z h
  obtain⟨h1,h2⟩:=head_ok h.items
  exact post_one h.rel stepR_loop (ih ι b a w cs B X Z (h.same (cons_ok h1 (cons_ok h1 h2))))
 |inLoop _ ih=>
  intro ι b a w cs B X Z h
  obtain⟨h1,h2⟩:=head_ok h.items
  exact post_one h.rel stepR_inLoop (ih ι b a w cs B X Z (h.same (cons_ok h1 (cons_ok h1 h2))))
 |exit hx _ ih=>intro ι b a w cs B X Z h;exact post_one h.rel (stepR_exit hx) (ih ι b a w cs B X Z (h.same (exit_okR hx (head_ok h.items).2)))
 |goto hx _ ih=>intro ι b a w cs B X Z h;exact post_one h.rel (stepR_goto hx) (ih ι b a w cs B X Z (h.same (goto_okR hx (head_ok h.items).2)))
 |@cond Y rd fn k fr H p Q c x y t hc _ ih=>
  intro ι b a w cs B X Z h
  obtain⟨h1,h2⟩:=head_ok h.items
  simp only [itemOkR,codeOkR,Bool.and_eq_true]at h1
  have hv:=h.fr.ev c
  rw [hc]at hv
  refine post_one h.rel (stepR_cond (vr_bool hv)) (ih ι b a w cs B X Z (h.same (cons_ok ?_ h2)))
  cases t
  ·exact h1.2
  ·exact h1.1
 |drawc h1 h2 h3 _ ih=>exact sound_drawc hT hm h1 h2 h3 ih
 |@region Y rd fn k fr H p Q id ops _ ih=>
  intro ι b a w cs B X Z h
  refine post_one h.rel stepR_region ?_
  have:=ih 0 ι b a w cs B X Z (by simp) (Nat.zero_le _) (h.same (head_ok h.items).2)
  rw [Nat.sub_zero,←List.range_eq_range']at this
  exact this
 |draw h1 _ ih=>exact sound_draw hT hm h1 ih
 |rangeF h1 h2 _ h3 _ ih1 ih2=>exact sound_range h1 h2 ih1 h3 ih2
 |@onil Y rd fn all k fr H p Q _ ih=>
  intro m ι b a w cs B X Z hos hm h
  have hz:all.size-m=0:=by
   have:=congrArg List.length hos
   simp at this;omega
  rw [hz]
  exact post_one h.rel stepR_region_end (ih ι b a w cs B X Z h)
 |oskip h1 h2 _ ih=>exact sound_oskip h1 h2 ih
 |oplain h1 _ h2 h3 _ ih=>exact sound_oplain hT h1 h2 h3 ih
 |omkf h1 h2 _ h3 _ ih=>exact sound_omkf h1 h2 h3 ih
 |ocall fr2 h1 h2 h3 _ _ h5 _ h6 _ ih1 ih2=>exact sound_ocall h1 h2 h3 ih1 h5 ih2 h6
 |oyield fr2 h1 h2 h3 h4 h5 _ h6 h7 _ ih1 ih2=>exact sound_oyield h1 h2 h3 h4 h5 ih1 h6 h7 ih2
 |orange _ h1 h2 h3 h4 h5 _ ih=>exact sound_orange h1 h2 h3 h4 h5 ih
 |onext fr2 _ h1 h2 h3 h4 h5 h6 _ _ ih1 ih2=>exact sound_onext h1 h2 h3 h4 h6 h5 ih1 ih2
 |oentry _ h1 h2 h3 h4 h5 h6 h7 h8 _ ih=>exact sound_oentry h1 h2 h3 h4 h5 h6 h7 h8 ih
theorem sound (hT:TOk P (LC P E.E)) (hm:P.follows .mixedOrders=true) (hpx: ∀f s,E.px f=some s→ ∀args H r H',s args H r H'→Entered P f∧CallOkR P E.tF f args H r H') (hcat: ∀f,E.cat=some f→CatOk P E.tF f) {j:JR} (h:R P E j):Sound P E j:=by
 cases j with
 |round=>exact trivial
 |call f args H r H'=>
 obtain⟨h1,h2⟩:=soundW hT hm hpx hcat h
 exact⟨h1,fun ι w args' a b c=>(h2 ι w args' a b c).mono fun e w' ⟨r1,H1,ι',⟨e1,e2⟩,h3,h4⟩=>by subst e1 e2;exact⟨ι',h3,h4⟩⟩
end
def Bs (H H':LH):Prop:=H'.base=H.base∧H'.ng=H.ng
theorem Bs.refl (H:LH):Bs H H:=⟨rfl,rfl⟩
theorem Bs.trans {H H1 H2:LH} (h:Bs H H1) (k:Bs H1 H2):Bs H H2:=⟨k.1.trans h.1,k.2.trans h.2⟩
def BsT (T:Callee):Prop:= ∀f args H v H',T f args H=some (v,H')→Bs H H'
section
variable {P:Program} {T:Callee} {fr fr':Fr} {H H' H0:LH} {o:Oper} {v x y:Value} {N:Nat}
theorem store_bs {t:TypeId} {l off:Nat} (h:lstore P t l off v H=some H'):Bs H H':=by
 unfold lstore at h
 split at h
 ·split at h
  ·injection h with h;subst h;exact⟨rfl,rfl⟩
  ·cases h
 ·cases h
theorem buildSlice_bs {t:TypeId} {len:Nat} {ps:List (Nat×Value)} (h:lbuildSlice P t len ps H=some (v,H')):Bs H H':=by
 unfold lbuildSlice at h
 (repeat' split at h)<;>first|(cases h;done)|(simp only [Option.some.injEq,Prod.mk.injEq]at h;obtain⟨_,rfl⟩:=h;exact⟨rfl,rfl⟩)
theorem make_bs {t:TypeId} (h:lmake P t x y H=some (v,H')):Bs H H':=by
 unfold lmake at h
 (repeat' split at h)<;>first|(cases h;done)|(simp only [Option.some.injEq,Prod.mk.injEq]at h;obtain⟨_,rfl⟩:=h;exact⟨rfl,rfl⟩)
theorem appM_bs {e:TypeId} {s l o n c m:Nat} {b:LB} {new:List Value} (h:lappM P e s l o n c b m new H=some (v,H')):Bs H H':=by
 unfold lappM at h
 (repeat' split at h)<;>first|(cases h;done)|(simp only [Option.some.injEq,Prod.mk.injEq]at h;obtain⟨_,rfl⟩:=h;exact⟨rfl,rfl⟩)
theorem append_bs {t u:TypeId} (h:lappend P t u x y H=some (v,H')):Bs H H':=by
 unfold lappend at h
 (repeat' split at h)<;>first|(cases h;done)|exact appM_bs h|(simp only [Option.some.injEq,Prod.mk.injEq]at h;obtain⟨_,rfl⟩:=h;exact⟨rfl,rfl⟩)
theorem del_bs {t:TypeId} {m k:Value} (h:lmdel P t m k H=some H'):Bs H H':=by
 unfold lmdel at h
 (repeat' split at h)<;>first|(cases h;done)|(simp only [Option.some.injEq]at h;subst h;exact⟨rfl,rfl⟩)
theorem put_bs {t:TypeId} {m k:Value} (h:lmput P t m k v H=some H'):Bs H H':=by
 unfold lmput at h
 (repeat' split at h)<;>first|(cases h;done)|(simp only [Option.some.injEq]at h;subst h;exact⟨rfl,rfl⟩)
theorem clr_bs {t:TypeId} (h:lclr P t x H=some H'):Bs H H':=by
 unfold lclr at h
 (repeat' split at h)<;>first|(cases h;done)|(simp only [Option.some.injEq]at h;subst h;exact⟨rfl,rfl⟩)
theorem builtin_bs {b:Builtin} {ts:List TypeId} {args:List Value} (h:lbuiltin P b ts args H=some (v,H')):Bs H H':=by
 unfold lbuiltin at h
 (repeat' split at h)<;>first|(cases h;done)|exact append_bs h|(obtain⟨u,hu,e⟩:=Option.map_eq_some_iff.1 h;simp only [Prod.mk.injEq]at e;obtain⟨_,rfl⟩:=e;first|exact Bs.refl _|exact del_bs hu|exact clr_bs hu)|(simp only [Option.some.injEq,Prod.mk.injEq]at h;obtain⟨_,rfl⟩:=h;exact⟨rfl,rfl⟩)
theorem callee_bs (hT:BsT T) {f:Value} {args:List Value} (h:lcallee P T f args H=some (v,H')):Bs H H':=by
 unfold lcallee at h
 split at h
 ·exact hT _ _ _ _ _ h
 ·cases h
theorem lop_bs (hT:BsT T) (h:lop P T o fr H=some (v,H')):Bs H H':=by
 unfold lop at h
 split at h
 all_goals (repeat' split at h)
 all_goals first
  |(cases h;done)
  |exact builtin_bs h
  |exact callee_bs hT h
  |exact buildSlice_bs h
  |exact make_bs h
  |(simp only [Option.some.injEq,Prod.mk.injEq]at h;obtain⟨_,rfl⟩:=h;exact⟨rfl,rfl⟩)
  |(obtain⟨u,hu,e⟩:=Option.map_eq_some_iff.1 h;simp only [Prod.mk.injEq]at e;obtain⟨_,rfl⟩:=e;first|exact Bs.refl _|exact store_bs hu|exact put_bs hu)
theorem bytes_bs {s d:TypeId} (h:lbytes P s d x H=some (v,H')):Bs H H':=by
 unfold lbytes at h
 (repeat' split at h)<;>first|(cases h;done)|(simp only [Option.some.injEq,Prod.mk.injEq]at h;obtain⟨_,rfl⟩:=h;exact⟨rfl,rfl⟩)
theorem mark_bs {s d:TypeId} (h:lmark P s d x H=some (v,H')):Bs H H':=by
 unfold lmark at h
 (repeat' split at h)<;>first|(cases h;done)|(simp only [Option.some.injEq,Prod.mk.injEq]at h;obtain⟨_,rfl⟩:=h;exact⟨rfl,rfl⟩)
theorem bytesM_bs {s d:TypeId} (h:lbytesM P s d x H=some (v,H')):Bs H H':=by
 unfold lbytesM at h
 split at h
 ·rename_i r hr;injection h with h;subst h;exact bytes_bs hr
 ·exact mark_bs h
theorem lopB_bs (hT:BsT T) (h:lopB P T o fr H=some (v,H')):Bs H H':=by
 unfold lopB at h
 split at h
 ·split at h
  ·rename_i r hr;injection h with h;subst h;exact bytesM_bs hr
  ·exact lop_bs hT h
 ·exact lop_bs hT h
theorem lops_bs (hT:BsT T) {all:Array Oper} : ∀ {os:List Oper} {fr:Fr} {H:LH} {fr':Fr} {H':LH},lops none P T N all os fr H=some (fr',H')→Bs H H'
 | [],fr,H,fr',H',h=>by
  simp only [lops,Option.some.injEq,Prod.mk.injEq]at h
  obtain⟨_,rfl⟩:=h
  exact Bs.refl _
 |o::os,fr,H,fr',H',h=>by
  unfold lops at h
  split at h
  ·split at h
   ·rename_i v H1 ho
    split at h
    ·exact(lopB_bs hT ho).trans (lops_bs hT h)
    ·cases h
   ·cases h
  ·split at h
   ·exact lops_bs hT h
   ·cases h
  ·cases h
theorem lopC_bs [Cvt] (hT:BsT T) {o:Oper} {v:Value} (h:lopC P T o fr H=some (v,H')):Bs H H':=by
 unfold lopC at h
 split at h
 ·split at h
  ·exact bytes_bs h
  ·cases h
 ·exact lop_bs hT h
theorem lchain_bs [Cvt] (hT:BsT T) {all:Array Oper} {prs:List (Nat×Nat)} : ∀ {os:List Oper} {k:Nat} {old:Nat→Fr×LH} {fr:Fr} {H:LH} {fr':Fr} {H':LH},lchain P T N all prs k old os fr H=some (fr',H')→Bs H H'
 | [],k,old,fr,H,fr',H',h=>by
  simp only [lchain,Option.some.injEq,Prod.mk.injEq]at h
  obtain⟨_,rfl⟩:=h
  exact Bs.refl _
 |o::os,k,old,fr,H,fr',H',h=>by
  unfold lchain at h
  split at h
  ·split at h
   ·rename_i v H1 ho
    split at h
    ·split at h
     ·exact(lopC_bs hT ho).trans (lchain_bs hT h)
     ·cases h
    ·cases h
   ·cases h
  ·split at h
   ·split at h
    ·exact lchain_bs hT h
    ·cases h
   ·cases h
  ·cases h
theorem run_bs (hT:BsT T) {L:Loud} {fn:Func} : ∀ {n:Nat} {k:List Item} {fr:Fr} {H:LH} {v:Value} {H':LH},run P L T fn n k fr H=some (v,H')→Bs H H'
 |0,_,_,_,_,_,h=>by cases h
 |n+1,k,fr,H,v,H',h=>by
  unfold run at h
  split at h
  all_goals first
   |(cases h;done)
   |(obtain⟨u,_,e⟩:=Option.map_eq_some_iff.1 h;simp only [Prod.mk.injEq]at e;obtain⟨_,rfl⟩:=e;exact Bs.refl _)
   |exact run_bs hT h
   |skip
  all_goals (repeat' split at h)
  all_goals first
   |(cases h;done)
   |exact run_bs hT h
   |skip
  ·rename_i fr1 H1 ho
   exact(lops_bs hT ho).trans (run_bs hT h)
  ·rename_i fr1 H1 ho
   refine Bs.trans (H1:=H1) ?_ (run_bs hT h)
   unfold ldraw at ho
   letI:Cvt:=⟨L.cv⟩;exact lchain_bs hT ho
theorem trunc_bs {r:Value×LH} (h:Bs H r.2):Bs H (trunc H r).2:=by
 unfold trunc
 split
 ·exact Bs.refl _
 ·exact h
theorem LCR.bs {E:Env} (hE: ∀f s,E.ext f=some s→ ∀args H v H',s args H=some (v,H')→Bs H H') {f:FuncId} {args:List Value} {r:Value×LH} (h:LCR P E f args H r):Bs H r.2:=by
 induction h with
 |ext h1 h2=>exact hE _ _ h1 _ _ _ _ h2
 |body T _ _ _ _ _ h ih=>exact trunc_bs (run_bs (fun f a H v H' q=>ih f a H (v,H') q) h)
theorem LC_bs {E:Env} (hE: ∀f s,E.ext f=some s→ ∀args H v H',s args H=some (v,H')→Bs H H') {f:FuncId} {args:List Value} (h:LC P E f args H=some (v,H')):Bs H H':=(LC_spec.1 h).bs hE
end
section
variable {P:Program}
@[simp] theorem pureVal_bind {α β:Type} (s:Sem α) (f:α→Sem β):pureVal P (s>>=f)=(pureVal P s).bind fun x=>pureVal P (f x):=by
 show pureVal P (s.bind f)=_
 induction s with
 |pure a=>rfl
 |program k ih=>exact ih P
 |mark m k ih=>exact ih
 |_=>rfl
@[simp] theorem pureVal_pure {α:Type} (x:α):pureVal P (pure x:Sem α)=some x:=rfl
@[simp] theorem pureVal_program:pureVal P program=some P:=rfl
@[simp] theorem pureVal_und (t:TypeId):pureVal P (underlying t)=P.underlying t:=by
 unfold underlying
 rw [pureVal_bind,pureVal_program,Option.bind_some]
 cases P.underlying t<;>rfl
@[simp] theorem pureVal_sizeOf (t:TypeId):pureVal P (sizeOf t)=sz P t:=by
 unfold sizeOf typeInfo sz
 simp only [pureVal_bind,pureVal_program,Option.bind_some]
 cases P.info? t<;>rfl
end
def str (l:List UInt8):Value:=.string ⟨l.toArray⟩
theorem str_ba (s:ByteArray):Value.string s=str s.data.toList:=by cases s;rfl
attribute [simp ↓] runs_skip runs_label runs_seq runs_block runs_inBlock runs_region runs_draw dx_some dx_perm dpm_go lx_nil lx_cons lx_cons0 lx_guard cx_none cx_nil cx_cons cx_cons0 cx_guard
@[congr] theorem rres_congr {x y:Option Value} {H:LH} {Q:Value×LH→Prop} (h:x=y):RRes x H Q=RRes y H Q:=by rw [h]
@[simp] theorem rres_some {v:Value} {H:LH} {Q:Value×LH→Prop} :RRes (some v) H Q↔Q (v,H):=Iff.rfl
@[simp] theorem rres_none {H:LH} {Q:Value×LH→Prop} :RRes none H Q↔False:=Iff.rfl
attribute [simp] runs_nil runs_ret rsel_true rsel_false
section
variable {P:Program} {E:Ext} {fn:Func} {k:List Item} {fr:Fr} {H H' H0:LH} {Q:Value×LH→Prop} {all:Array Oper} {os:List Oper} {d:Nat} {op:Op} {T:Callee}
section
variable {prs:List (Nat×Nat)} {p:List Nat} {j N:Nat} {old:Nat→Fr×LH} {v:Value} {L:Loud} {K F:KF}
@[congr] theorem dx_congr {x y:List (Nat×Nat)} {p q:List Nat} {l:List Oper} (h:x=y) (g:p=q):DX P L T N x p l fr H K=DX P L T N y q l fr H K:=by rw [h,g]
@[congr] theorem dpm_congr {l l':List Oper} (h:l=l'):DPm P L T N prs l fr H K=DPm P L T N prs l' fr H K:=by rw [h]
@[congr] theorem xs_congr {x y:Option (Value×LH)} (h:x=y):XS x d N fr F=XS y d N fr F:=by rw [h]
@[congr] theorem xs0_congr {x y:Option (Value×LH)} (h:x=y):XS0 x fr F=XS0 y fr F:=by rw [h]
@[congr] theorem xg_congr {g g':Option Bool} {x:Option (Value×LH)} (h:g=g'):XG g x d N fr H F=XG g' x d N fr H F:=by rw [h]
@[congr] theorem xc_congr {x y:Option (Value×LH)} (h:x=y):XC P x d N op all prs j old fr F=XC P y d N op all prs j old fr F:=by rw [h]
@[congr] theorem xc0_congr {x y:Option (Value×LH)} (h:x=y):XC0 P x op all prs j old fr F=XC0 P y op all prs j old fr F:=by rw [h]
@[congr] theorem xcg_congr {g g':Option Bool} {x:Option (Value×LH)} (h:g=g'):XCG P g x d N op all prs j old fr H F=XCG P g' x d N op all prs j old fr H F:=by rw [h]
@[simp] theorem xs_some:XS (some (v,H)) d N fr F↔d<N∧F (upd fr d v) H:=Iff.rfl
@[simp] theorem xs_none:XS none d N fr F↔False:=Iff.rfl
@[simp] theorem xs0_some:XS0 (some (v,H)) fr F↔F fr H:=Iff.rfl
@[simp] theorem xs0_none:XS0 none fr F↔False:=Iff.rfl
@[simp] theorem xg_true {x:Option (Value×LH)} :XG (some true) x d N fr H F↔XS x d N fr F:=Iff.rfl
@[simp] theorem xg_false {x:Option (Value×LH)} :XG (some false) x d N fr H F↔d<N∧F (upd fr d undef) H:=Iff.rfl
@[simp] theorem xc_some:XC P (some (v,H)) d N op all prs j old fr F↔d<N∧ckR P j op fr old v prs∧ckH P j all old (upd fr d v) H prs∧F (upd fr d v) H:=Iff.rfl
@[simp] theorem xc_none:XC P none d N op all prs j old fr F↔False:=Iff.rfl
@[simp] theorem xc0_some:XC0 P (some (v,H)) op all prs j old fr F↔ckR P j op fr old v prs∧ckH P j all old fr H prs∧F fr H:=Iff.rfl
@[simp] theorem xc0_none:XC0 P none op all prs j old fr F↔False:=Iff.rfl
@[simp] theorem xcg_true {x:Option (Value×LH)} :XCG P (some true) x d N op all prs j old fr H F↔XC P x d N op all prs j old fr F:=Iff.rfl
@[simp] theorem xcg_false {x:Option (Value×LH)} :XCG P (some false) x d N op all prs j old fr H F↔d<N∧ckH P j all old (upd fr d undef) H prs∧F (upd fr d undef) H:=Iff.rfl
@[congr] theorem rsel_congr {x y:Bool} {A B:Prop} (h:x=y):RSel x A B=RSel y A B:=by rw [h]
@[simp low] theorem xg_b {b:Bool} {x:Option (Value×LH)} :XG (some b) x d N fr H F↔(b=true→XS x d N fr F)∧(b=false→d<N∧F (upd fr d undef) H):=by cases b<;>simp
@[simp low] theorem xcg_b {b:Bool} {x:Option (Value×LH)} :XCG P (some b) x d N op all prs j old fr H F↔(b=true→XC P x d N op all prs j old fr F)∧(b=false→d<N∧ckH P j all old (upd fr d undef) H prs∧F (upd fr d undef) H):=by cases b<;>simp
end
section
variable {prs:List (Nat×Nat)} {j:Nat} {old:Nat→Fr×LH} {v:Value} {x:Fr×LH}
@[simp ↓] theorem oldS_get {i:Nat} :oldS old j x i=if i=j then x else old i:=rfl
@[simp ↓] theorem ckR_nil:ckR P j op fr old v []↔True:=Iff.rfl
@[simp ↓] theorem ckR_cons {a b:Nat} :ckR P j op fr old v ((a,b)::prs)↔(a=j∧b<j→lopx P T0 op fr (old b).2=some (v,(old b).2))∧ckR P j op fr old v prs:=Iff.rfl
@[simp ↓] theorem ckH_nil:ckH P j all old fr H' []↔True:=Iff.rfl
def lget:List Oper→Nat→Option Oper
 | [],_=>none
 |o::_,0=>some o
 |_::l,n+1=>lget l n
theorem lget_eq: ∀(l:List Oper) (j:Nat),l[j]?=lget l j
 | [],j=>by cases j<;>rfl
 |o::l,0=>rfl
 |o::l,n+1=>lget_eq l n
@[simp ↓] theorem lget_zero {o:Oper} {l:List Oper} :lget (o::l) 0=some o:=rfl
@[simp ↓] theorem lget_succ {o:Oper} {l:List Oper} {n:Nat} :lget (o::l) (n+1)=lget l n:=rfl
@[simp ↓] theorem ckH_cons {a b:Nat} {l:List Oper} :ckH P j ⟨l⟩ old fr H' ((a,b)::prs)↔(b=j∧a<j→ckOp P ⟨l⟩ (lget l a) (old a) fr H')∧ckH P j ⟨l⟩ old fr H' prs:=by
 have e:(⟨l⟩:Array Oper)[a]?=lget l a:=by
  rw [←lget_eq]
  show(l.toArray)[a]?=_
  rw [List.getElem?_toArray]
 rw [←e];exact Iff.rfl
@[simp ↓] theorem ckOp_plain {ty:TypeId} {pos:String} {after:Array Edge} {l:List Oper} :ckOp P ⟨l⟩ (some ⟨some d,op,ty,pos,after,none⟩) x fr H'↔lopx P T0 op x.1 H'=some (fr d,H'):=by
 unfold ckOp
 constructor
 ·intro h;exact h d rfl rfl
 ·intro h d' hd _
  injection hd with hd
  subst hd;exact h
def gtr (x:Option Bool):Prop:=x=some true
@[simp] theorem gtr_some {b:Bool} :gtr (some b)↔b=true:=by unfold gtr;simp
@[simp ↓] theorem ckOp_guard {ty:TypeId} {pos:String} {after:Array Edge} {l:List Oper} {g:Nat} {want:Bool} :ckOp P ⟨l⟩ (some ⟨some d,op,ty,pos,after,some (g,want)⟩) x fr H'↔(gtr (guardx ⟨l⟩ x.1 g want)→lopx P T0 op x.1 H'=some (fr d,H')):=by
 unfold ckOp gtr
 constructor
 ·intro h hg;exact h d rfl hg
 ·intro h d' hd hw
  injection hd with hd
  subst hd;exact h hw
end
@[simp ↓] theorem upd_get {v:Value} {t:Nat} :upd fr d v t=if t=d then v else fr t:=rfl
@[simp ↓] theorem ev_tmp {t:Nat} :ev fr (.tmp t)=fr t:=rfl
@[simp ↓] theorem ev_int {kd:IntKind} {n:Int} :ev fr (.const (.int kd n))=.int kd n:=rfl
@[simp ↓] theorem ev_bool {b:Bool} :ev fr (.const (.bool b))=.bool b:=rfl
@[simp ↓] theorem ev_str {l:List UInt8} :ev fr (.const (.string ⟨l.toArray⟩))=str l:=rfl
@[simp ↓] theorem ev_nil:ev fr (.const (.pointer none))=.pointer none:=rfl
@[simp ↓] theorem ev_nilslice:ev fr (.const (.slice none 0 0))=.slice none 0 0:=rfl
@[simp ↓] theorem ev_func {f:FuncId} :ev fr (.func f)=.func (.func f) #[] #[]:=rfl
def RCond (P:Program) (E:Ext) (fn:Func) (c:Value) (x y:Code) (k:List Item) (fr:Fr) (H:LH) (Q:Value×LH→Prop):Prop:=
 match c with
 |.bool b=>(b=true→Runs P E fn (.code x::k) fr H Q)∧(b=false→Runs P E fn (.code y::k) fr H Q)
 |_=>False
@[congr] theorem rcond_congr {c c':Value} {x y:Code} (h:c=c'):RCond P E fn c x y k fr H Q=RCond P E fn c' x y k fr H Q:=by rw [h]
@[simp ↓] theorem runs_cond' {c:Operand} {x y:Code} :Runs P E fn (.code (.cond c x y)::k) fr H Q↔RCond P E fn (ev fr c) x y k fr H Q:=by
 unfold RCond
 cases h:ev fr c with
 |bool b=>rw [runs_cond h];cases b<;>simp
 |_=>
  simp only [iff_false]
  rintro⟨n,r,hn,_⟩
  cases n with
  |zero=>simp [run]at hn
  |succ n=>simp [run,h]at hn
@[simp] theorem rcond_true {x y:Code} :RCond P E fn (.bool true) x y k fr H Q↔Runs P E fn (.code x::k) fr H Q:=by simp [RCond]
@[simp] theorem rcond_false {x y:Code} :RCond P E fn (.bool false) x y k fr H Q↔Runs P E fn (.code y::k) fr H Q:=by simp [RCond]
@[simp low] theorem rcond_b {b:Bool} {x y:Code} :RCond P E fn (.bool b) x y k fr H Q↔(b=true→Runs P E fn (.code x::k) fr H Q)∧(b=false→Runs P E fn (.code y::k) fr H Q):=Iff.rfl
@[simp ↓] theorem runs_exit' {id:Nat} :Runs P E fn (.code (.exit id)::k) fr H Q↔match exitTo id k with|some k'=>Runs P E fn k' fr H Q|none=>False:=runs_exit
@[simp] theorem exit_nil {id:Nat} :exitTo id []=none:=rfl
@[simp] theorem exit_block {id j:Nat} :exitTo id (.inBlock j::k)=if j==id then some k else exitTo id k:=rfl
@[simp] theorem exit_code {id:Nat} {c:Code} :exitTo id (.code c::k)=exitTo id k:=rfl
@[simp] theorem exit_loop {id:Nat} {c:Code} :exitTo id (.inLoop c::k)=exitTo id k:=rfl
def lnth:List Oper→Nat→Option Tmp
 | [],_=>none
 |o::_,0=>o.dst
 |_::l,n+1=>lnth l n
theorem lnth_eq: ∀(l:List Oper) (j:Nat),(l[j]?).bind (·.dst)=lnth l j
 | [],j=>by cases j<;>rfl
 |o::l,0=>rfl
 |o::l,n+1=>lnth_eq l n
attribute [simp] pidx
@[simp ↓] theorem pnth_zero {o:Oper} {l:List Oper} :pnth (o::l) 0=o:=rfl
@[simp ↓] theorem pnth_succ {o:Oper} {l:List Oper} {n:Nat} :pnth (o::l) (n+1)=pnth l n:=rfl
@[simp] theorem pren_none {p:List Nat} {d:Option Tmp} {op:Op} {ty:TypeId} {pos:String} {after:Array Edge} :pren p ⟨d,op,ty,pos,after,none⟩=⟨d,op,ty,pos,preE p after,none⟩:=rfl
@[simp] theorem pren_some {p:List Nat} {d:Option Tmp} {op:Op} {ty:TypeId} {pos:String} {after:Array Edge} {g:Nat} {b:Bool} :pren p ⟨d,op,ty,pos,after,some (g,b)⟩=⟨d,op,ty,pos,preE p after,some (pidx p g,b)⟩:=rfl
@[simp] theorem pmap_nil {p:List Nat} {l:List Oper} :pmap p l []= []:=rfl
@[simp] theorem pmap_cons {p:List Nat} {l:List Oper} {i:Nat} {is:List Nat} :pmap p l (i::is)=pren p (pnth l i)::pmap p l is:=rfl
@[simp ↓] theorem lnth_zero {dst:Option Tmp} {op:Op} {ty:TypeId} {pos:String} {after:Array Edge} {g:Option (Nat×Bool)} {l:List Oper} :lnth (⟨dst,op,ty,pos,after,g⟩::l) 0=dst:=rfl
@[simp ↓] theorem lnth_succ {o:Oper} {l:List Oper} {n:Nat} :lnth (o::l) (n+1)=lnth l n:=rfl
def gval (v:Value) (want:Bool):Option Bool:=match v with
 |.bool b=>some (b==want)
 |v=>if flatB v then some false else none
def gdst (d:Option Tmp) (fr:Fr) (want:Bool):Option Bool:=match d with
 |none=>some false
 |some d=>gval (fr d) want
@[simp ↓] theorem guardx_mk {l:List Oper} {j:Nat} {want:Bool} :guardx ⟨l⟩ fr j want=gdst (lnth l j) fr want:=by
 unfold guardx
 rw [←lnth_eq]
 show(match (l.toArray[j]?).bind (·.dst)with|none=>_|some d=>_)=_
 rw [List.getElem?_toArray]
 cases (l[j]?).bind (·.dst)<;>rfl
@[simp] theorem gdst_some {d:Nat} {want:Bool} :gdst (some d) fr want=gval (fr d) want:=rfl
@[simp] theorem gval_true {b:Bool} :gval (.bool b) true=some b:=by cases b<;>rfl
@[simp] theorem gval_false {b:Bool} :gval (.bool b) false=some (!b):=by cases b<;>rfl
@[simp] theorem gval_undef {want:Bool} :gval undef want=some false:=rfl
@[simp ↓] theorem lopx_move {x:Operand} :lopx P T (.move x) fr H=some (ev fr x,H):=rfl
@[simp ↓] theorem lopx_assign {x:Operand} :lopx P T (.assign x) fr H=some (ev fr x,H):=rfl
def lpick (c a b:Value) (H:LH):Option (Value×LH):=match c with|.bool t=>some (if t then a else b,H)|_=>none
@[simp ↓] theorem lopx_pick {c x y:Operand} :lopx P T (.pick c x y) fr H=lpick (ev fr c) (ev fr x) (ev fr y) H:=by
 show(match ev fr c with|.bool t=>_|_=>none:Option Value).map _=_
 unfold lpick;cases ev fr c<;>rfl
@[simp] theorem lpick_bool {t:Bool} {a b:Value} :lpick (.bool t) a b H=some (if t=true then a else b,H):=rfl
def withH (v:Option Value) (H:LH):Option (Value×LH):=v.map fun v=>(v,H)
@[simp] theorem withH_some {v:Value} :withH (some v) H=some (v,H):=rfl
@[simp ↓] theorem lopx_bin {op:BinOp} {t yt:TypeId} {x y:Operand} :lopx P T (.binOp op t x y yt) fr H=withH (lbin P op t (ev fr x) (ev fr y)) H:=rfl
def lidx (P:Program) (t:TypeId) (x i:Value):Option Value:=if flatB x&&flatB i then pureFlat P (Instr.index t x i)else none
@[simp ↓] theorem lopx_index {t:TypeId} {x i:Operand} :lopx P T (.index t x i) fr H=withH (lidx P t (ev fr x) (ev fr i)) H:=by
 rfl
def lun (P:Program) (op:UnOp) (x:Value):Option Value:=if flatB x then pureFlat P (Op.unary op x)else none
@[simp ↓] theorem lopx_un {op:UnOp} {t:TypeId} {x:Operand} :lopx P T (.unOp op t x) fr H=withH (lun P op (ev fr x)) H:=by
 rfl
def lconv (P:Program) (s d:TypeId) (x:Value) (H:LH):Option Value:=if flatB x then pureFlat P (convert s d x)else lbstr P s d x H
@[simp ↓] theorem lopx_conv {s d:TypeId} {x:Operand} :lopx P T (.convert s d x) fr H=withH (lconv P s d (ev fr x) H) H:=by
 show(if flatB (ev fr x)then _ else _)=withH (lconv _ _ _ _ _) _
 unfold lconv withH;split<;>rfl
def lextract (x:Value) (i:Nat):Option Value:=match x with|.tuple vs=>vs[i]?|_=>none
@[simp ↓] theorem lopx_extract {x:Operand} {i:Nat} :lopx P T (.extract x i) fr H=withH (lextract (ev fr x) i) H:=by
 rfl
@[simp] theorem lextract_0 {a:Value} {l:List Value} :lextract (.tuple ⟨a::l⟩) 0=some a:=rfl
@[simp] theorem lextract_1 {a b:Value} {l:List Value} :lextract (.tuple ⟨a::b::l⟩) 1=some b:=rfl
@[simp] theorem lextract_2 {a b c:Value} {l:List Value} :lextract (.tuple ⟨a::b::c::l⟩) 2=some c:=rfl
@[simp] theorem lextract_3 {a b c d:Value} {l:List Value} :lextract (.tuple ⟨a::b::c::d::l⟩) 3=some d:=rfl
@[simp ↓] theorem lopx_call {f:Operand} {args:List Operand} {ts:Array TypeId} :lopx P T (.call ⟨.value f,⟨args⟩,ts⟩) fr H=lcallee P T (ev fr f) (args.map (ev fr)) H:=rfl
@[simp ↓] theorem lopx_builtin {b:Builtin} {args:List Operand} {ts:List TypeId} :lopx P T (.call ⟨.builtin b,⟨args⟩,⟨ts⟩⟩) fr H=lbuiltin P b ts (args.map (ev fr)) H:=rfl
@[simp] theorem lcallee_func {g:FuncId} {args:List Value} :lcallee P T (.func (.func g) #[] #[]) args H=T g args H:=by simp [lcallee]
@[simp ↓] theorem lopxM_move {cm:Option (TypeId→TypeId→Bool)} {x:Operand} :lopxM cm P T (.move x) fr H=lopx P T (.move x) fr H:=by cases cm<;>rfl
@[simp ↓] theorem lopxM_assign {cm:Option (TypeId→TypeId→Bool)} {x:Operand} :lopxM cm P T (.assign x) fr H=lopx P T (.assign x) fr H:=by cases cm<;>rfl
@[simp ↓] theorem lopxM_pick {cm:Option (TypeId→TypeId→Bool)} {c x y:Operand} :lopxM cm P T (.pick c x y) fr H=lopx P T (.pick c x y) fr H:=by cases cm<;>rfl
@[simp ↓] theorem lopxM_alloc {cm:Option (TypeId→TypeId→Bool)} {t:TypeId} :lopxM cm P T (.alloc t) fr H=lopx P T (.alloc t) fr H:=by cases cm<;>rfl
@[simp ↓] theorem lopxM_box {cm:Option (TypeId→TypeId→Bool)} {t:TypeId} {x:Operand} :lopxM cm P T (.box t x) fr H=lopx P T (.box t x) fr H:=by cases cm<;>rfl
@[simp ↓] theorem lopxM_build {cm:Option (TypeId→TypeId→Bool)} {t:TypeId} {ps:Array (Nat×Operand)} :lopxM cm P T (.build t ps) fr H=lopx P T (.build t ps) fr H:=by cases cm<;>rfl
@[simp ↓] theorem lopxM_buildSlice {cm:Option (TypeId→TypeId→Bool)} {t:TypeId} {n:Nat} {ps:Array (Nat×Operand)} :lopxM cm P T (.buildSlice t n ps) fr H=lopx P T (.buildSlice t n ps) fr H:=by cases cm<;>rfl
@[simp ↓] theorem lopxM_load {cm:Option (TypeId→TypeId→Bool)} {t:TypeId} {x:Operand} :lopxM cm P T (.load t x) fr H=lopx P T (.load t x) fr H:=by cases cm<;>rfl
@[simp ↓] theorem lopxM_store {cm:Option (TypeId→TypeId→Bool)} {t:TypeId} {x y:Operand} :lopxM cm P T (.store t x y) fr H=lopx P T (.store t x y) fr H:=by cases cm<;>rfl
@[simp ↓] theorem lopxM_nilCheck {cm:Option (TypeId→TypeId→Bool)} {x:Operand} :lopxM cm P T (.nilCheck x) fr H=lopx P T (.nilCheck x) fr H:=by cases cm<;>rfl
@[simp ↓] theorem lopxM_binOp {cm:Option (TypeId→TypeId→Bool)} {o:BinOp} {t u:TypeId} {x y:Operand} :lopxM cm P T (.binOp o t x y u) fr H=lopx P T (.binOp o t x y u) fr H:=by cases cm<;>rfl
@[simp ↓] theorem lopxM_unOp {cm:Option (TypeId→TypeId→Bool)} {o:UnOp} {t:TypeId} {x:Operand} :lopxM cm P T (.unOp o t x) fr H=lopx P T (.unOp o t x) fr H:=by cases cm<;>rfl
@[simp ↓] theorem lopxM_makeFunc {cm:Option (TypeId→TypeId→Bool)} {f:Fn} {g c:Array Operand} :lopxM cm P T (.makeFunc f g c) fr H=lopx P T (.makeFunc f g c) fr H:=by cases cm<;>rfl
@[simp ↓] theorem lopxM_makeSlice {cm:Option (TypeId→TypeId→Bool)} {t:TypeId} {x y:Operand} :lopxM cm P T (.makeSlice t x y) fr H=lopx P T (.makeSlice t x y) fr H:=by cases cm<;>rfl
@[simp ↓] theorem lopxM_slice {cm:Option (TypeId→TypeId→Bool)} {t:TypeId} {x:Operand} {lo hi mx:Option Operand} :lopxM cm P T (.slice t x lo hi mx) fr H=lopx P T (.slice t x lo hi mx) fr H:=by cases cm<;>rfl
@[simp ↓] theorem lopxM_fieldAddr {cm:Option (TypeId→TypeId→Bool)} {t:TypeId} {x:Operand} {i:Nat} :lopxM cm P T (.fieldAddr t x i) fr H=lopx P T (.fieldAddr t x i) fr H:=by cases cm<;>rfl
@[simp ↓] theorem lopxM_field {cm:Option (TypeId→TypeId→Bool)} {t:TypeId} {x:Operand} {i:Nat} :lopxM cm P T (.field t x i) fr H=lopx P T (.field t x i) fr H:=by cases cm<;>rfl
@[simp ↓] theorem lopxM_indexAddr {cm:Option (TypeId→TypeId→Bool)} {t:TypeId} {x y:Operand} :lopxM cm P T (.indexAddr t x y) fr H=lopx P T (.indexAddr t x y) fr H:=by cases cm<;>rfl
@[simp ↓] theorem lopxM_index {cm:Option (TypeId→TypeId→Bool)} {t:TypeId} {x y:Operand} :lopxM cm P T (.index t x y) fr H=lopx P T (.index t x y) fr H:=by cases cm<;>rfl
@[simp ↓] theorem lopxM_extract {cm:Option (TypeId→TypeId→Bool)} {x:Operand} {i:Nat} :lopxM cm P T (.extract x i) fr H=lopx P T (.extract x i) fr H:=by cases cm<;>rfl
@[simp ↓] theorem lopxM_call {cm:Option (TypeId→TypeId→Bool)} {c:Call} :lopxM cm P T (.call c) fr H=lopx P T (.call c) fr H:=by cases cm<;>rfl
@[simp ↓] theorem lopxM_makeMap {cm:Option (TypeId→TypeId→Bool)} {t:TypeId} {r:Option Operand} :lopxM cm P T (.makeMap t r) fr H=lopx P T (.makeMap t r) fr H:=by cases cm<;>rfl
@[simp ↓] theorem lopxM_lookup {cm:Option (TypeId→TypeId→Bool)} {t:TypeId} {x y:Operand} {b:Bool} :lopxM cm P T (.lookup t x y b) fr H=lopx P T (.lookup t x y b) fr H:=by cases cm<;>rfl
@[simp ↓] theorem lopxM_mapUpdate {cm:Option (TypeId→TypeId→Bool)} {t:TypeId} {x y z:Operand} :lopxM cm P T (.mapUpdate t x y z) fr H=lopx P T (.mapUpdate t x y z) fr H:=by cases cm<;>rfl
@[simp ↓] theorem lopxB_M {op:Op} :lopxB P T op fr H=lopxM none P T op fr H:=rfl
@[simp ↓] theorem lopxC_M {cv:TypeId→TypeId→Bool} {op:Op} :lopxC cv P T op fr H=lopxM (some cv) P T op fr H:=rfl
def lcvC (cv:TypeId→TypeId→Bool) (P:Program) (s d:TypeId) (v:Value) (H:LH):Option (Value×LH):=if cv s d=true then lbytes P s d v H else withH (lconv P s d v H) H
theorem lopxC_convert {cv:TypeId→TypeId→Bool} {s t:TypeId} {x:Operand} :lopxC cv P T (.convert s t x) fr H=lcvC cv P s t (ev fr x) H:=by
 unfold lcvC
 cases h:cv s t with
 |true=>show(if cv s t=true then _ else _)=_;rw [h];rfl
 |false=>show(if cv s t=true then _ else lopx P T (.convert s t x) fr H)=_;rw [h,lopx_conv];first|done|rfl
@[simp] theorem lcvC_no {cv:TypeId→TypeId→Bool} {s t:TypeId} {v:Value} (h:cv s t=false):lcvC cv P s t v H=withH (lconv P s t v H) H:=by unfold lcvC;simp [h]
@[simp] theorem lcvC_yes {cv:TypeId→TypeId→Bool} {s t:TypeId} {v:Value} (h:cv s t=true):lcvC cv P s t v H=lbytes P s t v H:=by unfold lcvC;simp [h]
def lcvB (P:Program) (s d:TypeId) (v:Value) (H:LH):Option (Value×LH):=match lbytesM P s d v H with
 |some r=>some r
 |none=>withH (lconv P s d v H) H
theorem lopxB_convert {s t:TypeId} {x:Operand} :lopxB P T (.convert s t x) fr H=lcvB P s t (ev fr x) H:=by
 show(match lbytesM P s t (ev fr x) H with|some r=>some r|none=>lopx P T (.convert s t x) fr H)=_
 rw [lopx_conv];rfl
@[simp ↓] theorem lopxM_cvB {s t:TypeId} {x:Operand} :lopxM none P T (.convert s t x) fr H=lcvB P s t (ev fr x) H:=lopxB_convert
@[simp ↓] theorem lopxM_cvC {cv:TypeId→TypeId→Bool} {s t:TypeId} {x:Operand} :lopxM (some cv) P T (.convert s t x) fr H=lcvC cv P s t (ev fr x) H:=lopxC_convert
theorem lbytes_no {s t:TypeId} {v:Value} (h: ∀bs,v≠.string bs):lbytes P s t v H=none:=by
 unfold lbytes
 split
 ·exact absurd rfl (h _)
 ·rfl
theorem lcvB_no {s t:TypeId} {v:Value} (h: ∀bs,v≠.string bs) (h2: ∀a n c,v≠.slice a n c):lcvB P s t v H=withH (lconv P s t v H) H:=by
 have e1:=lbytes_no (P:=P) (H:=H) (s:=s) (t:=t) h
 have e2:lmark P s t v H=none:=by
  unfold lmark
  split
  ·exact absurd rfl (h2 _ _ _)
  ·rfl
 unfold lcvB lbytesM;rw [e1,e2]
@[simp] theorem lcvB_int {s t:TypeId} {kd:IntKind} {n:Int} :lcvB P s t (.int kd n) H=withH (lconv P s t (.int kd n) H) H:=lcvB_no (fun _ h=>by cases h) (fun _ _ _ h=>by cases h)
@[simp] theorem lcvB_float {s t:TypeId} {kd:FloatKind} {n:Nat} :lcvB P s t (.float kd n) H=withH (lconv P s t (.float kd n) H) H:=lcvB_no (fun _ h=>by cases h) (fun _ _ _ h=>by cases h)
@[simp] theorem lcvB_slice {s t:TypeId} {a:Option Addr} {n c:Nat} (hne:s≠t):lcvB P s t (.slice a n c) H=withH (lconv P s t (.slice a n c) H) H:=by
 have e1:=lbytes_no (P:=P) (H:=H) (s:=s) (t:=t) (v:=.slice a n c) (fun _ h=>by cases h)
 have e2:lmark P s t (.slice a n c) H=none:=by
  unfold lmark
  split
  ·split
   ·split
    ·rw [if_neg (fun h=>hne h.1)]
    ·rfl
   ·rfl
  ·rfl
 unfold lcvB lbytesM;rw [e1,e2]
@[simp] theorem lcvB_undef {s t:TypeId} :lcvB P s t undef H=withH (lconv P s t undef H) H:=lcvB_no (fun _ h=>by cases h) (fun _ _ _ h=>by cases h)
theorem strCells_eq (l:List UInt8):Lib.strCells ⟨l.toArray⟩=l.map fun b=>Value.int .u8 b.toNat:=by simp [Lib.strCells]
@[simp] theorem lcvB_bytes {s t e:TypeId} {l:List UInt8} (hs:P.underlying s=some .string) (hd:P.underlying t=some (.slice e)) (he:P.underlying e=some (.int .u8)) (hz:sz P e=some 1):lcvB P s t (str l) H=some (.slice (some ⟨H.n,0,none⟩) l.length l.length,H.new ⟨l.map fun b=>Value.int .u8 b.toNat,MK P e,decide (l.length≤maxLen)⟩):=by
 unfold lcvB lbytesM lbytes str
 simp only [hs,hd,he,hz,strCells_eq,if_true]
 rw [show(⟨l.toArray⟩:ByteArray).size=l.length by show l.toArray.size=_;simp]
@[simp] theorem lbytes_bytes {s t e:TypeId} {l:List UInt8} (hs:P.underlying s=some .string) (hd:P.underlying t=some (.slice e)) (he:P.underlying e=some (.int .u8)) (hz:sz P e=some 1):lbytes P s t (str l) H=some (.slice (some ⟨H.n,0,none⟩) l.length l.length,H.new ⟨l.map fun b=>Value.int .u8 b.toNat,MK P e,decide (l.length≤maxLen)⟩):=by
 unfold lbytes str
 simp only [hs,hd,he,hz,strCells_eq,if_true]
 rw [show(⟨l.toArray⟩:ByteArray).size=l.length by show l.toArray.size=_;simp]
@[simp] theorem lcvB_strs {s t:TypeId} {l:List UInt8} (hd:P.underlying t=some .string):lcvB P s t (str l) H=withH (lconv P s t (str l) H) H:=by
 have:lbytes P s t (str l) H=none:=by
  unfold lbytes
  split
  ·rename_i h _;rw [hd]at h;cases h
  ·rfl
 have e2:lmark P s t (str l) H=none:=by
  unfold lmark
  split
  ·rename_i h;cases h
  ·rfl
 unfold lcvB lbytesM;rw [this,e2]
@[simp] theorem flat_int {kd:IntKind} {n:Int} :flatB (.int kd n)=true:=by simp [flatB,flat1B,atomB,str]
@[simp] theorem flat_bool {b:Bool} :flatB (.bool b)=true:=by simp [flatB,flat1B,atomB,str]
@[simp] theorem flat_str {l:List UInt8} :flatB (str l)=true:=by simp [flatB,flat1B,atomB,str]
@[simp] theorem flat_string {s:ByteArray} :flatB (.string s)=true:=by simp [flatB,flat1B,atomB,str]
@[simp] theorem flat_nil:flatB (.pointer none)=true:=by simp [flatB,flat1B,atomB,str]
@[simp] theorem flat_nilslice:flatB (.slice none 0 0)=true:=by simp [flatB,flat1B,atomB,str]
@[simp] theorem wrap64_in {n:Int} (h1: -9223372036854775808≤n) (h2:n≤9223372036854775807):IntKind.i64.wrap n=n:=IntWalk.i64_in _ ⟨h1,h2⟩
theorem lbin_ii {op:BinOp} {t:TypeId} {kd:IntKind} {a b:Int} {v:Value} (h:pureVal P (binOp op t (.int kd a) (.int kd b))=some v) (hv:flatB v=true):lbin P op t (.int kd a) (.int kd b)=some v:=by
 have e:pureVal P (do eqGuard op t (.tmp 0) (.tmp 0) (.int kd a) (.int kd b);binOp op t (.int kd a) (.int kd b):Sem Value)=some v:=by
  rw [←h];cases op<;>rfl
 show pureFlat P (do eqGuard op t (.tmp 0) (.tmp 0) _ _;binOp op t _ _)=some v
 unfold pureFlat
 rw [e]
 simp only [hv,if_true]
variable {t:TypeId} {kd:IntKind} {a b:Int}
@[simp] theorem lbin_add:lbin P .add t (.int kd a) (.int kd b)=some (.int kd (kd.wrap (a+b))):=lbin_ii (by simp [binOp,Op.intArith]) rfl
@[simp] theorem lbin_sub:lbin P .sub t (.int kd a) (.int kd b)=some (.int kd (kd.wrap (a-b))):=lbin_ii (by simp [binOp,Op.intArith]) rfl
@[simp] theorem lbin_mul:lbin P .mul t (.int kd a) (.int kd b)=some (.int kd (kd.wrap (a*b))):=lbin_ii (by simp [binOp,Op.intArith]) rfl
@[simp] theorem lbin_quo (h:b≠0):lbin P .quo t (.int kd a) (.int kd b)=some (.int kd (kd.wrap (a.tdiv b))):=lbin_ii (by simp [binOp,Op.intDiv,h]) rfl
@[simp] theorem lbin_rem (h:b≠0):lbin P .rem t (.int kd a) (.int kd b)=some (.int kd (a.tmod b)):=lbin_ii (by simp [binOp,Op.intDiv,h]) rfl
@[simp] theorem lbin_eq:lbin P .eql t (.int kd a) (.int kd b)=some (.bool (decide (a=b))):=lbin_ii (by by_cases h:a=b<;>simp [binOp,Op.intCmp,h]) rfl
@[simp] theorem lbin_ne:lbin P .neq t (.int kd a) (.int kd b)=some (.bool (decide (a≠b))):=lbin_ii (by
 simp only [binOp,Op.intCmp,ne_eq,not_true_eq_false,if_false]
 show some (Value.bool (a !=b))=_
 congr 2
 by_cases h:a=b<;>simp [h]) rfl
@[simp] theorem lbin_lt:lbin P .lss t (.int kd a) (.int kd b)=some (.bool (decide (a<b))):=lbin_ii (by simp [binOp,Op.intCmp]) rfl
@[simp] theorem lbin_le:lbin P .leq t (.int kd a) (.int kd b)=some (.bool (decide (a≤b))):=lbin_ii (by simp [binOp,Op.intCmp]) rfl
@[simp] theorem lbin_gt:lbin P .gtr t (.int kd a) (.int kd b)=some (.bool (decide (b<a))):=lbin_ii (by simp [binOp,Op.intCmp]) rfl
@[simp] theorem lbin_ge:lbin P .geq t (.int kd a) (.int kd b)=some (.bool (decide (b≤a))):=lbin_ii (by simp [binOp,Op.intCmp]) rfl
theorem lbin_ss {op:BinOp} {t:TypeId} {a b:List UInt8} {v:Value} (h:pureVal P (binOp op t (str a) (str b))=some v) (hv:flatB v=true):lbin P op t (str a) (str b)=some v:=by
 have e:pureVal P (do eqGuard op t (.tmp 0) (.tmp 0) (str a) (str b);binOp op t (str a) (str b):Sem Value)=some v:=by
  rw [←h];cases op<;>rfl
 show pureFlat P (do eqGuard op t (.tmp 0) (.tmp 0) _ _;binOp op t _ _)=some v
 unfold pureFlat
 rw [e]
 simp only [hv,if_true]
theorem ba_list (l:List UInt8):(⟨l.toArray⟩:ByteArray).toList=l:=by rw [ba_toList]
theorem ba_size (l:List UInt8):(⟨l.toArray⟩:ByteArray).size=l.length:=by show l.toArray.size=_;simp
variable {x y:List UInt8}
@[simp] theorem lbin_seq:lbin P .eql t (str x) (str y)=some (.bool (decide (x=y))):=lbin_ss (by
 simp only [str,binOp,Op.stringOp,ba_list]
 show some (Value.bool (x==y))=_
 by_cases h:x=y<;>simp [h]) rfl
@[simp] theorem lbin_sne:lbin P .neq t (str x) (str y)=some (.bool (decide (x≠y))):=lbin_ss (by
 simp only [str,binOp,Op.stringOp,ba_list]
 show some (Value.bool (!(x==y)))=_
 by_cases h:x=y<;>simp [h]) rfl
@[simp] theorem lbin_cat (h:x.length+y.length≤9223372036854775807):lbin P .add t (str x) (str y)=some (str (x++y)):=lbin_ss (by
 simp only [str,binOp,Op.stringOp,ba_size]
 rw [if_neg (by rw [show IntKind.max .i64=9223372036854775807 from rfl];omega)]
 show some (Value.string _)=_
 congr 2) rfl
theorem lbin_bb {op:BinOp} {t:TypeId} {a b:Bool} {v:Value} (h:pureVal P (binOp op t (.bool a) (.bool b))=some v) (hv:flatB v=true):lbin P op t (.bool a) (.bool b)=some v:=by
 have e:pureVal P (do eqGuard op t (.tmp 0) (.tmp 0) (.bool a) (.bool b);binOp op t (.bool a) (.bool b):Sem Value)=some v:=by
  rw [←h];cases op<;>rfl
 show pureFlat P (do eqGuard op t (.tmp 0) (.tmp 0) _ _;binOp op t _ _)=some v
 unfold pureFlat
 rw [e]
 simp only [hv,if_true]
@[simp] theorem lun_not {a:Bool} :lun P .not (.bool a)=some (.bool (!a)):=rfl
@[simp] theorem lun_neg {a:Int} :lun P .neg (.int kd a)=some (.int kd (kd.wrap (0-a))):=rfl
def at_ (l:List UInt8) (i:Int):UInt8:=l.getD i.toNat 0
theorem lidx_str (hu:P.underlying t=some .string) {i:Int} (h0:0≤i) (h1:i<x.length):lidx P t (str x) (.int kd i)=some (.int .u8 (at_ x i).toNat):=by
 have hlt:i.toNat<x.length:=by omega
 have e:(⟨x.toArray⟩:ByteArray)[i.toNat]?=some (at_ x i):=by
  unfold at_
  have:(⟨x.toArray⟩:ByteArray)[i.toNat]?=x[i.toNat]?:=by
   rw [getElem?_def,getElem?_def]
   simp only [ba_size]
   rfl
  rw [this,List.getD_eq_getElem?_getD,List.getElem?_eq_getElem hlt];rfl
 have hp:pureVal P (Instr.index t (str x) (.int kd i))=some (.int .u8 (at_ x i).toNat):=by
  simp only [Instr.index,str,asIntOf,pureVal_bind,pureVal_pure,Option.bind_some,pureVal_und,hu]
  rw [if_pos h0,e];rfl
 show pureFlat P _=_
 unfold pureFlat
 rw [hp];rfl
theorem lbuiltin_len_str (hu:P.underlying t=some .string):lbuiltin P .len [t] [str x] H=some (.int .i64 x.length,H):=by
 simp only [lbuiltin,str,hu,ba_size]
theorem lbuiltin_len_slice {e:TypeId} (hu:P.underlying t=some (.slice e)) {ad:Option Addr} {n c:Nat} :lbuiltin P .len [t] [.slice ad n c] H=some (.int .i64 n,H):=by
 simp only [lbuiltin,hu]
end
end Go.Lg
