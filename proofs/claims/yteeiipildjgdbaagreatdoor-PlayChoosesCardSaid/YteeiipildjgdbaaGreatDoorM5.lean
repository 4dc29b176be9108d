/-
  Texts joined, part 5: ScSplit, UrSplit, UrDots, NuPlain, NuParts, UrNum, ScCode, UrGood, UrLens, UrParse, LgEq, UrEq, UrText, HdBack, HdCode, HdRows, HdRef, HdList, HdText, LgLift, HdRun, ScWord, ScEv, ScGood, StBs, ScShow, ScSet, ScEvent, ScNext, ScSettings, ScReadC, ScLives, ScCat, UrRefA, UrRefB, UrRefQ, UrRefN, UrRefD, UrRefG, UrRefT, ScRef, ScRefB, ScRefC, ScTold, Rp, HdSetC, HdSetR.
-/
import Derived.Test.YteeiipildjgdbaaGreatDoorM4
import Derived.Lib.IndexAny
import Derived.Test.YteeiipildjgdbaaGreatDoorM1
import Derived.Lib.SlTrimSet
import Derived.Lib.ItoaNum
import Derived.MapKept
import Derived.ChangeArms
import Derived.WideShapes
import Derived.Lib.LaidTab
import Derived.Test.YteeiipildjgdbaaGreatDoorM3
set_option linter.unusedSimpArgs false
set_option linter.unusedVariables false
namespace Tg.Sc
open Go
theorem cutIdx (c:UInt8): ∀s:List UInt8,(Lib.indexByte s c= -1→cutAt c s= [s])∧ ∀i:Nat,Lib.indexByte s c=i→cutAt c s=s.take i::cutAt c (s.drop (i+1))
 | []=>⟨fun _=>rfl,fun i h=>by simp [Lib.indexByte]at h⟩
 |b::r=>by
  obtain⟨h1,h2⟩:=cutIdx c r
  have hge:=Lib.indexByte_ge r c
  unfold Lib.indexByte
  by_cases hb:b=c
  ·subst hb
   constructor
   ·intro h;simp at h
   ·intro i h
    have:i=0:=by simp at h;omega
    subst this
    simp [cutAt]
  ·have hb1:(b==c)=false:=by simp [hb]
   rw [hb1]
   simp only [Bool.false_eq_true,if_false]
   by_cases hm:Lib.indexByte r c= -1
   ·constructor
    ·intro _;unfold cutAt;rw [if_neg hb,h1 hm]
    ·intro i h;simp [hm]at h
   ·have hm1:(Lib.indexByte r c== -1)=false:=by simp [hm]
    rw [hm1]
    simp only [Bool.false_eq_true,if_false]
    constructor
    ·intro h;omega
    ·intro i h
     obtain⟨j,rfl⟩: ∃j,i=j+1:=⟨i-1,by omega⟩
     have e:=h2 j (by omega)
     conv=>lhs;unfold cutAt
     rw [if_neg hb,e]
     rfl
theorem splitK_cut (c:UInt8): ∀(n:Nat) (s:List UInt8),s.length≤n→Lib.splitK [c] 0 (Lib.count s [c]) s=cutAt c s∧Lib.count s [c]≤s.length
 |n,s,h=>by
  obtain⟨h1,h2⟩:=cutIdx c s
  have hge:=Lib.indexByte_ge s c
  by_cases hm:Lib.indexByte s c= -1
  ·have hi:Lib.index s [c]= -1:=by rw [Lib.index_one];exact hm
   rw [Lib.count_miss hi,h1 hm]
   exact⟨rfl,by omega⟩
  ·obtain⟨i,hi⟩: ∃i:Nat,Lib.indexByte s c=i:=⟨(Lib.indexByte s c).toNat,by omega⟩
   have hi2:Lib.index s [c]=i:=by rw [Lib.index_one];exact hi
   have hlt:i<s.length:=by
    have:=(Lib.indexByte_some hi).1
    rcases Nat.lt_or_ge i s.length with g|g
    ·exact g
    ·rw [List.getElem?_eq_none g]at this;cases this
   rw [Lib.count_hit (by simp) hi2,h2 i hi]
   cases n with
   |zero=>omega
   |succ n=>
    have ih:=splitK_cut c n (s.drop (i+1)) (by rw [List.length_drop];omega)
    rw [Nat.add_comm 1]
    constructor
    ·show(if Lib.index s [c]== -1 then [s]else s.take ((Lib.index s [c]).toNat+0)::Lib.splitK [c] 0 (Lib.count (s.drop (i+1)) [c]) (s.drop ((Lib.index s [c]).toNat+1)))=_
     rw [hi2,if_neg (by simp),Int.toNat_natCast,ih.1]
     rfl
    ·have h3:=ih.2
     rw [List.length_drop]at h3
     show Lib.count (s.drop (i+1)) [c]+1≤_
     omega
theorem ba_str (x:ByteArray):Value.string x=Go.Lg.str x.data.toList:=by
 unfold Go.Lg.str;rfl
theorem cut_rows (c:UInt8) (s:List UInt8):(Lib.splitB ⟨[c].toArray⟩ 0 (Lib.countB ⟨s.toArray⟩ ⟨[c].toArray⟩) ⟨s.toArray⟩).map Value.string=(cutAt c s).map Go.Lg.str∧(cutAt c s).length=Lib.countB ⟨s.toArray⟩ ⟨[c].toArray⟩+1∧(Lib.splitB ⟨[c].toArray⟩ 0 (Lib.countB ⟨s.toArray⟩ ⟨[c].toArray⟩) ⟨s.toArray⟩).length=Lib.countB ⟨s.toArray⟩ ⟨[c].toArray⟩+1∧Lib.countB ⟨s.toArray⟩ ⟨[c].toArray⟩≤s.length:=by
 have e:=Lib.splitB_data ⟨[c].toArray⟩ 0 (Lib.countB ⟨s.toArray⟩ ⟨[c].toArray⟩) ⟨s.toArray⟩
 have hp:=splitK_cut c s.length s (Nat.le_refl _)
 have e2:(Lib.splitB ⟨[c].toArray⟩ 0 (Lib.countB ⟨s.toArray⟩ ⟨[c].toArray⟩) ⟨s.toArray⟩).map (·.data.toList)=cutAt c s:=e.trans hp.1
 have hl:=Lib.splitB_all ⟨[c].toArray⟩ (Nat.le_refl 1) 0 (Lib.countB ⟨s.toArray⟩ ⟨[c].toArray⟩) ⟨s.toArray⟩ rfl
 refine⟨?_,?_,hl,hp.2⟩
 ·rw [←e2,List.map_map]
  exact List.map_congr_left (fun x _=>ba_str x)
 ·rw [←e2,List.length_map,hl]
theorem cut_len (c:UInt8): ∀s:List UInt8,∀p∈cutAt c s,p.length≤s.length
 | [],p,h=>by simp [cutAt]at h;subst h;simp
 |b::r,p,h=>by
  have ih:=cut_len c r
  unfold cutAt at h
  split at h
  ·rcases List.mem_cons.mp h with rfl|h
   ·simp
   ·have:=ih p h;simp;omega
  ·split at h
   ·simp at h;subst h;simp
   ·rename_i q l hq
    rcases List.mem_cons.mp h with rfl|h
    ·have:=ih q (by rw [hq];simp);simp;omega
    ·have:=ih p (by rw [hq];simp [h]);simp;omega
theorem wl_join: ∀ {l:List (List UInt8)},Lib.join l [32]=wl l
 | []=>rfl
 | [w]=>by unfold Lib.join wl;simp [List.intercalate]
 |w::v::l=>by
  have ih:=wl_join (l:=v::l)
  unfold Lib.join at ih⊢
  unfold wl
  rw [←ih]
  simp [List.intercalate,List.intersperse]
theorem hexv_hx (b:UInt8):(Tg.Ur.hx b).getD 0=hexv b:=by
 unfold Tg.Ur.hx hexv
 split
 ·rfl
 ·split
  ·rfl
  ·split<;>rfl
end Tg.Sc
namespace Tg.Ur
open Go
theorem pieces_ne (s:List UInt8):pieces s≠ []:=by
 cases s with
 |nil=>simp [pieces]
 |cons b r=>
  unfold pieces
  split
  ·simp
  ·split<;>simp
theorem pieces_idx: ∀s:List UInt8,(Lib.indexByte s 47= -1→pieces s= [s])∧ ∀i:Nat,Lib.indexByte s 47=i→pieces s=s.take i::pieces (s.drop (i+1))
 | []=>⟨fun _=>rfl,fun i h=>by simp [Lib.indexByte]at h⟩
 |b::r=>by
  obtain⟨h1,h2⟩:=pieces_idx r
  have hge:=Lib.indexByte_ge r 47
  unfold Lib.indexByte
  by_cases hb:b=47
  ·subst hb
   constructor
   ·intro h;simp at h
   ·intro i h
    have:i=0:=by simp at h;omega
    subst this
    simp [pieces]
  ·have hb1:(b==47)=false:=by simp [hb]
   rw [hb1]
   simp only [Bool.false_eq_true,if_false]
   by_cases hm:Lib.indexByte r 47= -1
   ·constructor
    ·intro _;unfold pieces;rw [if_neg hb,h1 hm]
    ·intro i h;simp [hm]at h
   ·have hm1:(Lib.indexByte r 47== -1)=false:=by simp [hm]
    rw [hm1]
    simp only [Bool.false_eq_true,if_false]
    constructor
    ·intro h;omega
    ·intro i h
     obtain⟨j,rfl⟩: ∃j,i=j+1:=⟨i-1,by omega⟩
     have e:=h2 j (by omega)
     conv=>lhs;unfold pieces
     rw [if_neg hb,e]
     rfl
theorem splitK_pieces: ∀(n:Nat) (s:List UInt8),s.length≤n→Lib.splitK [47] 0 (Lib.count s [47]) s=pieces s∧Lib.count s [47]≤s.length
 |n,s,h=>by
  obtain⟨h1,h2⟩:=pieces_idx s
  have hge:=Lib.indexByte_ge s 47
  by_cases hm:Lib.indexByte s 47= -1
  ·have hi:Lib.index s [47]= -1:=by rw [Lib.index_one];exact hm
   rw [Lib.count_miss hi,h1 hm]
   exact⟨rfl,by omega⟩
  ·obtain⟨i,hi⟩: ∃i:Nat,Lib.indexByte s 47=i:=⟨(Lib.indexByte s 47).toNat,by omega⟩
   have hi2:Lib.index s [47]=i:=by rw [Lib.index_one];exact hi
   have hlt:i<s.length:=by
    have:=(Lib.indexByte_some hi).1
    rcases Nat.lt_or_ge i s.length with g|g
    ·exact g
    ·rw [List.getElem?_eq_none g]at this;cases this
   rw [Lib.count_hit (by simp) hi2,h2 i hi]
   cases n with
   |zero=>omega
   |succ n=>
    have ih:=splitK_pieces n (s.drop (i+1)) (by rw [List.length_drop];omega)
    rw [Nat.add_comm 1]
    constructor
    ·show(if Lib.index s [47]== -1 then [s]else s.take ((Lib.index s [47]).toNat+0)::Lib.splitK [47] 0 (Lib.count (s.drop (i+1)) [47]) (s.drop ((Lib.index s [47]).toNat+1)))=_
     rw [hi2,if_neg (by simp),Int.toNat_natCast,ih.1]
     rfl
    ·have h3:=ih.2
     rw [List.length_drop]at h3
     show Lib.count (s.drop (i+1)) [47]+1≤_
     omega
theorem ba_str (x:ByteArray):Value.string x=Go.Lg.str x.data.toList:=by
 unfold Go.Lg.str;rfl
theorem split_rows (s:List UInt8):(Lib.splitB ⟨[47].toArray⟩ 0 (Lib.countB ⟨s.toArray⟩ ⟨[47].toArray⟩) ⟨s.toArray⟩).map Value.string=(pieces s).map Go.Lg.str∧(pieces s).length=Lib.countB ⟨s.toArray⟩ ⟨[47].toArray⟩+1∧(Lib.splitB ⟨[47].toArray⟩ 0 (Lib.countB ⟨s.toArray⟩ ⟨[47].toArray⟩) ⟨s.toArray⟩).length=Lib.countB ⟨s.toArray⟩ ⟨[47].toArray⟩+1∧Lib.countB ⟨s.toArray⟩ ⟨[47].toArray⟩≤s.length:=by
 have e:=Lib.splitB_data ⟨[47].toArray⟩ 0 (Lib.countB ⟨s.toArray⟩ ⟨[47].toArray⟩) ⟨s.toArray⟩
 have hp:=splitK_pieces s.length s (Nat.le_refl _)
 have e2:(Lib.splitB ⟨[47].toArray⟩ 0 (Lib.countB ⟨s.toArray⟩ ⟨[47].toArray⟩) ⟨s.toArray⟩).map (·.data.toList)=pieces s:=e.trans hp.1
 have hl:=Lib.splitB_all ⟨[47].toArray⟩ (Nat.le_refl 1) 0 (Lib.countB ⟨s.toArray⟩ ⟨[47].toArray⟩) ⟨s.toArray⟩ rfl
 refine⟨?_,?_,hl,hp.2⟩
 ·rw [←e2,List.map_map]
  exact List.map_congr_left (fun x _=>ba_str x)
 ·rw [←e2,List.length_map,hl]
theorem pieces_len: ∀s:List UInt8,∀p∈pieces s,p.length≤s.length
 | [],p,h=>by simp [pieces]at h;subst h;simp
 |b::r,p,h=>by
  have ih:=pieces_len r
  unfold pieces at h
  split at h
  ·rcases List.mem_cons.mp h with rfl|h
   ·simp
   ·have:=ih p h;simp;omega
  ·split at h
   ·simp at h;subst h;simp
   ·rename_i q l hq
    rcases List.mem_cons.mp h with rfl|h
    ·have:=ih q (by rw [hq];simp);simp;omega
    ·have:=ih p (by rw [hq];simp [h]);simp;omega
theorem joinS_ne {l:List (List UInt8)} (h:l≠ []):joinS l=47::Lib.join l [47]:=by
 cases l with
 |nil=>exact absurd rfl h
 |cons x r=>
  rw [Lib.join_cons]
  show 47::(x++joinS r)=47::(x++Lib.joinTail [47] r)
  congr 2
  clear h
  induction r with
  |nil=>rfl
  |cons y r ih=>show 47::(y++joinS r)=_;rw [ih];simp [Lib.joinTail]
theorem joinS_len {m:Nat} : ∀ {l:List (List UInt8)},(∀p∈l,p.length≤m)→(joinS l).length≤l.length*(m+1)
 | [],_=>by simp [joinS]
 |x::l,h=>by
  have ih:=joinS_len (l:=l) (fun p hp=>h p (by simp [hp]))
  have hx:=h x (by simp)
  show(47::(x++joinS l)).length≤(l.length+1)*(m+1)
  rw [Nat.add_mul]
  simp;omega
theorem foldD_cons (out:List (List UInt8)) (p:List UInt8) (l:List (List UInt8)):foldD out (p::l)=foldD (stepD (decide (l= [])) out p) l:=by
 cases l with
 |nil=>rfl
 |cons q l=>rfl
theorem stepD_len (t:Bool) (out:List (List UInt8)) (p:List UInt8):(stepD t out p).length≤out.length+1:=by
 unfold stepD
 split
 ·simp
 ·rw [List.length_append]
  have:(if pts p 0=2 then out.dropLast else out).length≤out.length:=by split<;>simp
  have:(if t=true then [([]:List UInt8)]else []).length≤1:=by split<;>simp
  omega
theorem stepD_mem {t:Bool} {out:List (List UInt8)} {p:List UInt8} {m:Nat} (h: ∀q∈out,q.length≤m) (hp:p.length≤m): ∀q∈stepD t out p,q.length≤m:=by
 unfold stepD
 intro q hq
 split at hq
 ·rcases List.mem_append.mp hq with g|g
  ·exact h q g
  ·simp at g;subst g;exact hp
 ·rcases List.mem_append.mp hq with g|g
  ·split at g
   ·exact h q (List.dropLast_subset _ g)
   ·exact h q g
  ·split at g
   ·simp at g;subst g;simp
   ·simp at g
end Tg.Ur
set_option maxRecDepth 100000
namespace Go.Proofs.YteeiipildjgdbaaGreatDoor
open Go.Lg Go.Tg
section
variable {H:LH} {b:UInt8} {s p:List UInt8}
theorem RowN.takeL {P:Program} {N:Nat} {t e:TypeId} {v:Value} {n:Nat} {xs:List Value} (h:RowN N H e 1 v n xs) (hu:P.underlying t=some (.slice e)) (hs:sz P e=some 1) (j:Nat) (hj:j≤n): ∃v',lpart P t v none (some (.int .i64 j))=some v'∧RowN N H e 1 v' j (xs.take j)∧ ∀k,offRow v k→offRow v' k:=by
 have hl:=h.1
 rcases h.2 with⟨rfl,rfl⟩|⟨k,c,rest,rfl,g1,g2,g3,g4,g5⟩
 ·have:j=0:=by omega
  subst this
  exact⟨.slice none 0 0,by simp [lpart,hu,hs,lbd],⟨by simp,.inl ⟨rfl,rfl⟩⟩,fun _ h=>h⟩
 ·refine⟨_,lpart_row_ns hu hs (by omega) (by omega),⟨by rw [List.length_take];omega,.inr ⟨k,c,xs.drop j++rest,by rw [Int.toNat_natCast],g1,g2,?_,by omega,?_⟩⟩,fun i hi n c' h=>?_⟩
  ·rw [←List.append_assoc,List.take_append_drop];exact g3
  ·rw [←List.append_assoc,List.take_append_drop];exact g5
  ·injection h with h
   injection h with h
   injection h with h
   subst h
   exact hi _ _ rfl
theorem prefix1 {c:UInt8} :Lib.hasPrefix s [c]=decide (s[0]?=some c):=by
 cases s with
 |nil=>rfl
 |cons b r=>simp [Lib.hasPrefix,List.isPrefixOf];rw [Bool.eq_iff_iff];simp;exact eq_comm
theorem out_app {v:Value} {acc:List (List UInt8)} {N:Nat} {x:List UInt8} (h:RowN N H 9 1 v acc.length (acc.map str)) (hN:N≤H.n) (hl:acc.length≤100000):
  ∃v' H2,lapp Tryz.prog 25 v (some (1,[str x])) (H.new ⟨[str x],9,true⟩)=some (v',H2)∧RowN N H2 9 1 v' (acc++ [x]).length ((acc++ [x]).map str)∧N≤H2.n∧ ∀k,k<N→H2.get k=H.get k:=by
 have h2:RowN N (H.new ⟨[str x],9,true⟩) 9 1 v acc.length (acc.map str):=h.keep (Nat.le_succ _) (fun k _ _ hk=>get_new_ne (by omega))
 obtain⟨v',H2,ha,hr,hk,_⟩:=h2.app (t:=25) (new:= [x].map str) (m:=1) Tryz.underlying25 (by kernel_rfl) (by simp) (by simp) (by unfold maxElems;omega) (by rw [n_new];omega) (.inl (Nat.le_refl 1))
 refine⟨v',H2,ha,by rw [List.length_append,List.map_append];exact hr,Nat.le_trans (by rw [n_new];omega) hk.le,fun k hkn=>?_⟩
 rw [hk.get k (by rw [n_new];omega) (h.off_lt hkn),get_new_ne (by omega)]
theorem foldD_ne: ∀(l:List (List UInt8)) (out:List (List UInt8)),l≠ []→Tg.Ur.foldD out l≠ []
 | [],_,h=>absurd rfl h
 | [p],out,_=>by
  show Tg.Ur.stepD true out p≠ []
  unfold Tg.Ur.stepD
  split<;>simp
 |p::q::l,out,_=>foldD_ne (q::l) _ (by simp)
theorem dots_cl (hs:s.length≤90000) (hm:MaxL H):LC Tryz.prog EJ 230 [str s] H=some (str (Tg.Ur.dots s),H):=by
 refine LC_pure rfl Tryz.func230 rfl (by kernel_rfl) rfl ?_
 have hpre:=prefix1 (s:=s) (c:=47)
 by_cases h47:s[0]?=some 47
 ·obtain⟨r,rfl⟩: ∃r,s=47::r:=by
   cases s with
   |nil=>simp at h47
   |cons c r=>simp at h47;exact⟨r,by rw [h47]⟩
  have hp1:Lib.hasPrefix (47::r) [47]=true:=by rw [hpre];exact decide_eq_true h47
  clear hpre h47
  obtain⟨e1,e2,e3,e4⟩:=Tg.Ur.split_rows r
  have hsp:=split_l (H:=H) (s:=r) (p:= [47]) (by simp at hs;omega) (by simp) hm (by unfold maxLen;simp at hs;omega) e3
  rw [e1,←e2]at hsp
  have hpl:=Tg.Ur.pieces_len r
  have hpn:=Tg.Ur.pieces_ne r
  have hlen:(Tg.Ur.pieces r).length≤90000:=by simp at hs;omega
  have hrl:r.length≤90000:=by simp at hs;omega
  have hD:Tg.Ur.dots (47::r)=47::Lib.join (Tg.Ur.foldD [] (Tg.Ur.pieces r)) [47]:=by
   show(if Tg.Ur.joinS (Tg.Ur.foldD [] (Tg.Ur.pieces r))= []then [47]else Tg.Ur.joinS (Tg.Ur.foldD [] (Tg.Ur.pieces r)))=_
   by_cases hj:Tg.Ur.foldD [] (Tg.Ur.pieces r)= []
   ·rw [hj];rfl
   ·rw [Tg.Ur.joinS_ne hj];simp
  rw [hD]
  generalize hps:Tg.Ur.pieces r=ps at*
  clear e1 e2 e3 e4 hD
  have q1:=eq_true (show(1:Int)≤(r.length:Int)+1 by omega)
  simp [hsp,q1,hp1]
  refine loop_ind (fun(i:Nat) fr' H'=> ∃acc v,fr' 3=v∧fr' 4=sl H.n ps.length ps.length∧fr' 14=sl H.n ps.length ps.length∧fr' 15=.int .i64 ps.length∧fr' 16=.int .i64 i∧i≤ps.length∧RowN (H.n+1) H' 9 1 v acc.length (acc.map str)∧H.n+1≤H'.n∧H'.get H.n=some ⟨ps.map str,9,true⟩∧(∀k,k<H.n→H'.get k=H.get k)∧Tg.Ur.foldD acc (ps.drop i)=Tg.Ur.foldD [] ps∧acc.length≤i∧ ∀q∈acc,q.length≤r.length) (fun i=>ps.length-i) 0 ⟨[],_,by simp,by simp,by simp,by simp,by simp,Nat.zero_le _,RowN.nil,by simp,by simp,fun k hk=>get_new_ne (by omega),rfl,Nat.le_refl _,by simp⟩ ?_
  rintro i fr' H' ⟨acc,v,h3,h4,h14,h15,h16,hi,hrow,hn,hg,hle,hf,ha,hq⟩ ih
  subst h3
  by_cases hlt:i<ps.length
  ·have hsz:sz Tryz.prog 9=some 1:=by kernel_rfl
   have hag:aggB Tryz.prog 9=some false:=by kernel_rfl
   have hprow:Row H.n H' 9 (sl H.n ps.length ps.length) (ps.map str):=.inr ⟨H.n,ps.length,[],by simp,Nat.le_refl _,by simpa using hg,by simp⟩
   obtain⟨pa,f1,f2⟩:=Row.at (P:=Tryz.prog) (H':=H') (kd:=.i64) (j:=(i:Int)) (d:=.nilFunc) hprow Tryz.underlying25 hsz hag (by omega) (by simp;omega)
   have hget:(ps.map str).getD (i:Int).toNat .nilFunc=str ps[i]:=by rw [Int.toNat_natCast,List.getD_eq_getElem?_getD,List.getElem?_map,List.getElem?_eq_getElem hlt];rfl
   rw [hget]at f2
   have hpi:=hpl ps[i] (List.getElem_mem hlt)
   rw [List.drop_eq_getElem_cons hlt,Tg.Ur.foldD_cons]at hf
   have hlast:(ps.drop (i+1)= [])↔i+1=ps.length:=by rw [List.drop_eq_nil_iff];omega
   rw [show decide (ps.drop (i+1)= [])=decide (i+1=ps.length) by simp only [hlast]]at hf
   generalize ps[i]=p at*
   have hpc:=fun H:LH=>points_cl (H:=H) (s:=p) (by omega)
   have q0:=eq_true (show(i:Int)<(ps.length:Int) by omega)
   have hw1:IntKind.i64.wrap ((i:Int)+1)=((i+1:Nat):Int):=by rw [wrapI (by omega) (by omega)];omega
   have hlen0:=fun H2:LH=>hrow.len (P:=Tryz.prog) (H':=H2) (t:=25) Tryz.underlying25
   obtain⟨v1,t1,t2,t3⟩:=RowN.takeL (P:=Tryz.prog) (t:=25) hrow Tryz.underlying25 hsz (acc.length-1) (by omega)
   have hnext:=fun acc2 v2 fr2 H2 (g3:fr2 3=v2) (gr:RowN (H.n+1) H2 9 1 v2 acc2.length (acc2.map str)) (g4:fr2 4=sl H.n ps.length ps.length) (g14:fr2 14=sl H.n ps.length ps.length) (g15:fr2 15=.int .i64 ps.length) (g16:fr2 16=.int .i64 ((i+1:Nat):Int)) (gn:H.n+1≤H2.n) (gk: ∀k,k<H.n+1→H2.get k=H'.get k) (ga:Tg.Ur.stepD (decide (i+1=ps.length)) acc p=acc2)=>
    ih (i+1) fr2 H2 (by omega) ⟨acc2,v2,g3,g4,g14,g15,g16,by omega,gr,gn,by rw [gk _ (by omega)];exact hg,fun k hk=>by rw [gk k (by omega)];exact hle k hk,by rw [←ga];exact hf,by rw [←ga];have:=Tg.Ur.stepD_len (decide (i+1=ps.length)) acc p;omega,by rw [←ga];exact Tg.Ur.stepD_mem hq hpi⟩
   have hwi:IntKind.i64.wrap ((ps.length:Int)-1)=(ps.length:Int)-1:=wrapI (by omega) (by omega)
   have hwl:IntKind.i64.wrap ((acc.length:Int)-1)=(acc.length:Int)-1:=wrapI (by omega) (by omega)
   have hmx:(if(acc.length:Int)-1<0 then 0 else(acc.length:Int)-1)=((acc.length-1:Nat):Int):=by split<;>omega
   have hdl:acc.take (acc.length-1)=acc.dropLast:=(List.dropLast_eq_take).symm
   rw [←List.map_take,hdl]at t2
   have hll:acc.length-1=acc.dropLast.length:=by simp
   rw [hll]at t2 hmx t1
   unfold Tg.Ur.stepD at hnext
   clear ih hf
   generalize Tg.Ur.pts p 0=n at*
   by_cases hn2:n=2
   ·subst hn2
    rw [if_neg (by simp),if_pos rfl]at hnext
    have tz: ∃z:Int,lpart Tryz.prog 25 (fr' 3) none (some (.int .i64 z))=some v1∧((((acc.length:Int)-1<0)=True∧z=0)∨(((acc.length:Int)-1<0)=False∧z=(acc.length:Int)-1)):=by
     refine⟨_,t1,?_⟩
     rw [←hll]
     by_cases hz:(acc.length:Int)-1<0
     ·exact .inl ⟨eq_true hz,by omega⟩
     ·exact .inr ⟨eq_false hz,by omega⟩
    clear t1
    obtain⟨z,t1,⟨qz,rfl⟩|⟨qz,rfl⟩⟩:=tz
    all_goals
     by_cases hL:i+1=ps.length
     ·have qL:=eq_true (show(i:Int)=(ps.length:Int)-1 by omega)
      rw [decide_eq_true hL,if_pos rfl]at hnext
      obtain⟨v2,H2,a1,a2,a3,a4⟩:=out_app (x:= []) t2 hn (by rw [←hll];omega)
      simp [h4,h14,h15,h16,q0,f1,f2,hpc,hlen0,hwl,qz,t1,hwi,qL,a1]
      exact hnext _ v2 _ _ (by simp) a2 (by simp [h4]) (by simp [h14]) (by simp [h15]) (by simp [hw1]) a3 a4 rfl
     ·have qL:=eq_false (show¬(i:Int)=(ps.length:Int)-1 by omega)
      rw [decide_eq_false hL,if_neg (by simp),List.append_nil]at hnext
      simp [h4,h14,h15,h16,q0,f1,f2,hpc,hlen0,hwl,qz,t1,hwi,qL]
      exact hnext _ v1 _ _ (by simp) t2 (by simp [h4]) (by simp [h14]) (by simp [h15]) (by simp [hw1]) hn (fun _ _=>rfl) rfl
   by_cases hn1:n=1
   ·subst hn1
    rw [if_neg (by simp),if_neg (by simp)]at hnext
    by_cases hL:i+1=ps.length
    ·have qL:=eq_true (show(i:Int)=(ps.length:Int)-1 by omega)
     rw [decide_eq_true hL,if_pos rfl]at hnext
     obtain⟨v2,H2,a1,a2,a3,a4⟩:=out_app (x:= []) hrow hn (by omega)
     simp [h4,h14,h15,h16,q0,f1,f2,hpc,hwi,qL,a1]
     exact hnext _ v2 _ _ (by simp) a2 (by simp [h4]) (by simp [h14]) (by simp [h15]) (by simp [hw1]) a3 a4 rfl
    ·have qL:=eq_false (show¬(i:Int)=(ps.length:Int)-1 by omega)
     rw [decide_eq_false hL,if_neg (by simp),List.append_nil]at hnext
     simp [h4,h14,h15,h16,q0,f1,f2,hpc,hwi,qL]
     exact hnext _ (fr' 3) _ _ (by simp) hrow (by simp [h4]) (by simp [h14]) (by simp [h15]) (by simp [hw1]) hn (fun _ _=>rfl) rfl
   ·rw [if_pos ⟨hn1,hn2⟩]at hnext
    have qa:=eq_false (show¬(n:Int)=2 by omega)
    have qb:=eq_false (show¬(n:Int)=1 by omega)
    obtain⟨v2,H2,a1,a2,a3,a4⟩:=out_app (x:=p) hrow hn (by omega)
    simp [h4,h14,h15,h16,q0,f1,f2,hpc,qa,qb,hn1,hn2,a1]
    exact hnext _ v2 _ _ (by simp) a2 (by simp [h4]) (by simp [h14]) (by simp [h15]) (by simp [hw1]) a3 a4 rfl
  ·have q0:=eq_false (show¬(i:Int)<(ps.length:Int) by omega)
   rw [List.drop_of_length_le (by omega)]at hf
   have hf:acc=Tg.Ur.foldD [] ps:=hf
   have hne:acc≠ []:=by rw [hf];exact foldD_ne _ _ hpn
   rw [←hf]
   have hpos:=List.length_pos_iff.mpr hne
   have hjl:=Tg.Ur.joinS_len hq
   rw [Tg.Ur.joinS_ne hne]at hjl
   have hmul:acc.length*(r.length+1)≤90000*90001:=Nat.mul_le_mul (by omega) (by omega)
   simp only [List.length_cons]at hjl
   clear ih
   rcases hrow.2 with⟨_,h0⟩|⟨k,c,rest,hv,g1,g2,g3,g4,g5⟩
   ·omega
   ·have hj:=join_l (H:=H') (p:= [47]) (l:=k) (o:=0) (n:=acc.length) (c:=c) (xs:=acc) g3 (by omega) g4 (by omega) rfl (by simp) (by omega)
    have hjb:(Lib.join acc [47]).length+1≤4294967296000:=by omega
    generalize Lib.join acc [47]=jn at*
    have hjc:jn.length+1≤9223372036854775807:=by omega
    simp [h15,h16,q0,hv,hj,lbin_cat (P:=Tryz.prog) (x:= [47]) (y:=jn) (by simp;omega)]
    exact⟨by omega,fun k hk=>hle k hk⟩
 ·have hp0:Lib.hasPrefix s [47]=false:=by rw [hpre];exact decide_eq_false h47
  have hd:Tg.Ur.dots s= []:=by
   unfold Tg.Ur.dots
   split
   ·simp at h47
   ·rfl
  simp [hp0,hd]
end
end Go.Proofs.YteeiipildjgdbaaGreatDoor
namespace Tg.Nu
def isD (b:UInt8):Bool:=decide (48≤(b.toNat:Int))&&decide ((b.toNat:Int)≤57)
def isE (b:UInt8):Bool:=decide (b=101)||decide (b=69)
def wh (st:Nat):Bool:=st==2||st==3||st==5||st==8
def nx (st:Nat) (b:UInt8):Nat:=
 if st=0∨st=1 then
  if b=45∧st=0 then 1 else if b=48 then 2 else if isD b then 3 else 9
 else if(st=4∨st=5)∧isD b then 5
 else if st=6∨st=7∨st=8 then
  if isD b then 8 else if st=6∧(b=43∨b=45)then 7 else 9
 else if st=3∧isD b then 3
 else if b=46∧(st=2∨st=3)then 4
 else if isE b∧wh st then 6 else 9
def en (st:Nat) (s:List UInt8):Nat:=s.foldl nx st
def acc (st:Nat) (s:List UInt8):Bool:=wh (en st s)
theorem nx9 (b:UInt8):nx 9 b=9:=by simp [nx,wh]
theorem en9: ∀s,en 9 s=9
 | []=>rfl
 |b::s=>by show en (nx 9 b) s=9;rw [nx9];exact en9 s
theorem acc9 (s:List UInt8):acc 9 s=false:=by unfold acc;rw [en9];rfl
theorem acc_cons (st:Nat) (b:UInt8) (s:List UInt8):acc st (b::s)=acc (nx st b) s:=rfl
theorem D_not (b:UInt8) (h:isD b=true):b≠45∧b≠43∧b≠46∧isE b=false:=by
 simp only [isD,Bool.and_eq_true,decide_eq_true_eq]at h
 refine⟨?_,?_,?_,?_⟩
 ·rintro rfl;simp at h
 ·rintro rfl;simp at h
 ·rintro rfl;simp at h
 ·simp only [isE,Bool.or_eq_false_iff,decide_eq_false_iff_not]
  constructor<;>(rintro rfl;simp at h)
def hd:List UInt8→Bool
 | []=>false
 |c::_=>isD c
theorem hd_cons (c:UInt8) (r:List UInt8):hd (c::r)=isD c:=rfl
def all8 (v:List UInt8):Bool:=hd v&&(v.dropWhile isD).isEmpty
def B6 (r:List UInt8):Bool:=
 match r with
 | []=>false
 |c::q=>if c=43∨c=45 then all8 q else all8 r
def B2 (u:List UInt8):Bool:=
 match u with
 | []=>true
 |c::r=>isE c&&B6 r
def B1 (v:List UInt8):Bool:=
 match v with
 | []=>true
 |c::r=>if c=46 then hd r&&B2 (r.dropWhile isD)else B2 v
theorem acc8: ∀s,acc 8 s=(s.dropWhile isD).isEmpty
 | []=>rfl
 |b::s=>by
  rw [acc_cons,List.dropWhile_cons]
  by_cases h:isD b=true
  ·rw [if_pos h,show nx 8 b=8 by simp [nx,h]];exact acc8 s
  ·rw [if_neg h,show nx 8 b=9 by simp [nx,h],acc9];rfl
theorem acc7 (s:List UInt8):acc 7 s=all8 s:=by
 cases s with
 |nil=>rfl
 |cons b s=>
  rw [acc_cons]
  unfold all8
  rw [List.dropWhile_cons,hd_cons]
  by_cases h:isD b=true
  ·rw [if_pos h,show nx 7 b=8 by simp [nx,h],acc8,h];rfl
  ·rw [if_neg h,show nx 7 b=9 by simp [nx,h],acc9];simp [h]
theorem acc6 (s:List UInt8):acc 6 s=B6 s:=by
 cases s with
 |nil=>rfl
 |cons b s=>
  rw [acc_cons]
  unfold B6
  by_cases h:isD b=true
  ·obtain⟨h1,h2,_⟩:=D_not b h
   rw [show nx 6 b=8 by simp [nx,h],acc8]
   simp [h1,h2,all8,hd,h,List.dropWhile_cons]
  ·by_cases h2:b=43∨b=45
   ·rw [show nx 6 b=7 by simp [nx,h,h2],acc7];simp [h2]
   ·rw [show nx 6 b=9 by simp [nx,h,h2],acc9];simp [h2,all8,hd,h]
theorem acc5: ∀s,acc 5 s=B2 (s.dropWhile isD)
 | []=>rfl
 |b::s=>by
  rw [acc_cons,List.dropWhile_cons]
  by_cases h:isD b=true
  ·rw [if_pos h,show nx 5 b=5 by simp [nx,h]];exact acc5 s
  ·rw [if_neg h]
   unfold B2
   by_cases h2:isE b=true
   ·rw [show nx 5 b=6 by simp [nx,h,h2,wh],acc6];simp [h2]
   ·rw [show nx 5 b=9 by simp [nx,h,h2],acc9];simp [h2]
theorem acc4 (s:List UInt8):acc 4 s=(hd s&&B2 (s.dropWhile isD)):=by
 cases s with
 |nil=>rfl
 |cons b s=>
  rw [acc_cons,List.dropWhile_cons]
  unfold hd
  by_cases h:isD b=true
  ·rw [if_pos h,show nx 4 b=5 by simp [nx,h],acc5];simp [h]
  ·rw [if_neg h,show nx 4 b=9 by simp [nx,h,wh],acc9];simp [h]
theorem acc2 (s:List UInt8):acc 2 s=B1 s:=by
 cases s with
 |nil=>rfl
 |cons b s=>
  rw [acc_cons]
  unfold B1
  by_cases h1:b=46
  ·rw [show nx 2 b=4 by subst h1;rfl,acc4];simp [h1]
  ·by_cases h2:isE b=true
   ·rw [show nx 2 b=6 by simp [nx,h1,h2,wh],acc6];simp [h1,B2,h2]
   ·rw [show nx 2 b=9 by simp [nx,h1,h2],acc9];simp [h1,B2,h2]
theorem drop_take (u:List UInt8):u.drop (u.takeWhile isD).length=u.dropWhile isD:=by
 induction u with
 |nil=>rfl
 |cons b u ih=>
  rw [List.takeWhile_cons,List.dropWhile_cons]
  split
  ·simpa using ih
  ·rfl
end Tg.Nu
namespace Tg.Nu
open Go
def digs (l:List UInt8):Prop:= ∀b∈l,isD b=true
def eoT:Option (UInt8×List UInt8×List UInt8)→List UInt8
 |none=> []
 |some (e,sg,ep)=>e::(sg++ep)
def foT:Option (List UInt8)→List UInt8
 |none=> []
 |some f=>46::f
structure Num where
 neg:Bool
 ip:List UInt8
 f:Option (List UInt8)
 e:Option (UInt8×List UInt8×List UInt8)
def OkE:Option (UInt8×List UInt8×List UInt8)→Prop
 |none=>True
 |some (c,sg,ep)=>isE c=true∧(sg= []∨sg= [43]∨sg= [45])∧digs ep∧ep≠ []
def OkF:Option (List UInt8)→Prop
 |none=>True
 |some f=>digs f
structure Num.Ok (n:Num):Prop where
 ip:digs n.ip
 ip0:n.ip≠ []
 f:OkF n.f
 e:OkE n.e
def Num.head (n:Num):List UInt8:=n.ip++foT n.f
def Num.body (n:Num):List UInt8:=n.head++eoT n.e
def Num.text (n:Num):List UInt8:=(if n.neg then [45]else [])++n.body
def dv (n:Nat) (l:List UInt8):Nat:=l.foldl (fun n b=>10*n+(b.toNat-48)) n
def nz (b:UInt8):Bool:=b==48
def lead (l:List UInt8):List UInt8:=l.dropWhile nz
def trail (l:List UInt8):List UInt8:=(l.reverse.dropWhile nz).reverse
def Num.fp (n:Num):List UInt8:=match n.f with|none=> []|some f=>f
def Num.all (n:Num):List UInt8:=lead (n.ip++n.fp)
def Num.short (n:Num):List UInt8:=trail n.all
theorem Num.Ok.cons {n:Num} (h:n.Ok): ∃c r,n.ip=c::r∧isD c=true:=by
 cases hip:n.ip with
 |nil=>exact absurd hip h.ip0
 |cons c r=>exact⟨c,r,rfl,h.ip c (by rw [hip];simp)⟩
theorem dv_append (n:Nat) (l r:List UInt8):dv n (l++r)=dv (dv n l) r:=by unfold dv;rw [List.foldl_append]
theorem dv_take (l:List UInt8) {i:Nat} (h:i<l.length):dv 0 (l.take (i+1))=10*dv 0 (l.take i)+(l[i].toNat-48):=by
 rw [List.take_succ_eq_append_getElem h,dv_append];rfl
theorem dv_ge (l:List UInt8): ∀n,n≤dv n l:=by
 induction l with
 |nil=>intro n;exact Nat.le_refl n
 |cons b l ih=>intro n;exact Nat.le_trans (by omega) (ih (10*n+(b.toNat-48)))
theorem dv_mono (l:List UInt8) (i:Nat):dv 0 (l.take i)≤dv 0 l:=by
 have:=dv_append 0 (l.take i) (l.drop i)
 rw [List.take_append_drop]at this
 rw [this];exact dv_ge _ _
def dC (l:List UInt8):Nat:=if dv 0 l≤9007199254740991 then dv 0 l else 9007199254740991
end Tg.Nu
namespace Tg.Nu
def cat (d l:List UInt8):List UInt8:=if d≠ []then d++l else lead l
end Tg.Nu
namespace Go.Proofs.YteeiipildjgdbaaGreatDoor
open Go.Lg Go.Tg
section
open Tg.Nu
variable {H:LH} {b:UInt8} {s t:List UInt8}
theorem digit_l:LC Tryz.prog EJ 165 [.int .u8 b.toNat] H=some (.bool (isD b),H):=Digit_cl
theorem digits_l (hs:s.length≤1048576):LC Tryz.prog EJ 142 [str s] H=some (.int .i64 ((s.takeWhile isD).length:Nat),H):=by
 refine LC_pure rfl Tryz.func142 rfl (by kernel_rfl) rfl ?_
 simp
 refine loop_ind (fun(i:Nat) fr' H'=>fr' 0=str s∧fr' 3=.int .i64 i∧i≤s.length∧(s.takeWhile isD).length=i+((s.drop i).takeWhile isD).length∧H'=H) (fun i=>s.length-i) 0 (by simp) ?_
 rintro i fr' H' ⟨h0,h3,hi,hr,rfl⟩ ih
 by_cases hlt:i<s.length
 ·have hd:=List.drop_eq_getElem_cons hlt
  rw [hd,List.takeWhile_cons]at hr
  cases hc:isD s[i]with
  |true=>
   rw [hc,if_pos rfl,List.length_cons]at hr
   have hw:IntKind.i64.wrap ((i:Int)+1)=((i+1:Nat):Int):=by rw [wrap64_in (by omega) (by omega)];omega
   simp [h0,h3,hlt,digit_l,at_in hlt,hc,hw]
   exact ih (i+1) _ _ (by omega) ⟨by simp [h0],by simp,hlt,by omega,rfl⟩
  |false=>
   rw [hc,if_neg (by simp)]at hr
   simp [h0,h3,hlt,digit_l,at_in hlt,hc]
   simp at hr;omega
 ·rw [List.drop_eq_nil_of_le (by omega)]at hr
  simp [h0,h3,hlt]
  simp at hr;omega
theorem value_l (hd:digs s) (hs:s.length≤1048576):LC Tryz.prog EJ 143 [str s] H=some (.tuple #[.int .i64 (dC s:Nat),.bool (decide (dv 0 s≤9007199254740991))],H):=by
 refine LC_pure rfl Tryz.func143 rfl (by kernel_rfl) rfl ?_
 simp
 refine loop_ind (fun(i:Nat) fr' H'=>fr' 0=str s∧fr' 4=.int .i64 (dv 0 (s.take i):Nat)∧fr' 7=.int .i64 s.length∧fr' 8=.int .i64 i∧i≤s.length∧dv 0 (s.take i)≤9007199254740991∧H'=H) (fun i=>s.length-i) 0 (by simp [dv]) ?_
 rintro i fr' H' ⟨h0,h4,h7,h8,hi,hm,rfl⟩ ih
 by_cases hlt:i<s.length
 ·have hD:=hd s[i] (List.getElem_mem hlt)
  simp only [isD,Bool.and_eq_true,decide_eq_true_eq]at hD
  have ht:=dv_take s hlt
  have hmono:=dv_mono s (i+1)
  have hw1:IntKind.i64.wrap ((dv 0 (s.take i):Int)*10)=(dv 0 (s.take i):Int)*10:=by rw [wrap64_in (by omega) (by omega)]
  have hw2:IntKind.u8.wrap ((s[i].toNat:Int)-48)=((s[i].toNat-48:Nat):Int):=by
   have:=s[i].toNat_lt
   rw [show IntKind.u8.wrap ((s[i].toNat:Int)-48)=((s[i].toNat:Int)-48)%256 from IntKind.wrap_u8 _];omega
  have hw3:IntKind.i64.wrap ((s[i].toNat-48:Nat):Int)=((s[i].toNat-48:Nat):Int):=by rw [wrap64_in (by omega) (by omega)]
  have hw4:IntKind.i64.wrap ((dv 0 (s.take i):Int)*10+((s[i].toNat-48:Nat):Int))=((dv 0 (s.take (i+1)):Nat):Int):=by rw [wrap64_in (by omega) (by omega)];omega
  have hw:IntKind.i64.wrap ((i:Int)+1)=((i+1:Nat):Int):=by rw [wrap64_in (by omega) (by omega)];omega
  by_cases hbig:dv 0 (s.take (i+1))≤9007199254740991
  ·have f:=eq_false (show¬9007199254740991<((dv 0 (s.take (i+1)):Nat):Int) by omega)
   simp [h0,h4,h7,h8,hlt,at_in hlt,hw1,hw2,hw3,hw4,hw,f]
   exact ih (i+1) _ _ (by omega) ⟨by simp [h0],by simp,by simp [h7],by simp,hlt,hbig,rfl⟩
  ·have f:=eq_true (show 9007199254740991<((dv 0 (s.take (i+1)):Nat):Int) by omega)
   have e1: ¬dv 0 s≤9007199254740991:=by omega
   have e2:dC s=9007199254740991:=by unfold dC;rw [if_neg e1]
   simp [h0,h4,h7,h8,hlt,at_in hlt,hw1,hw2,hw3,hw4,hw,f,e1,e2]
 ·have e:s.take i=s:=List.take_of_length_le (by omega)
  rw [e]at hm h4
  have e2:dC s=dv 0 s:=by unfold dC;rw [if_pos hm]
  simp [h0,h4,h7,h8,hlt,hm,e2]
theorem tw_all: ∀ {s:List UInt8},s.all isD=true→s.takeWhile isD=s
 | [],_=>rfl
 |b::r,h=>by
  simp only [List.all_cons,Bool.and_eq_true]at h
  rw [List.takeWhile_cons,if_pos h.1,tw_all h.2]
theorem tw_lt: ∀ {s:List UInt8},s.all isD=false→(s.takeWhile isD).length<s.length
 | [],h=>by simp at h
 |b::r,h=>by
  rw [List.takeWhile_cons]
  by_cases hb:isD b=true
  ·rw [if_pos hb]
   simp only [List.all_cons,hb,Bool.true_and]at h
   have:=tw_lt h
   simp;omega
  ·rw [if_neg hb];simp
theorem dparse_cl (hs:s.length≤1048576):LC Tryz.prog EJ 89 [str s] H=some (.tuple #[.int .i64 (if s= []∨s.all isD=false then 0 else if 9007199254740991<dv 0 s then 0 else(dv 0 s:Nat)),.int .i64 (if s= []∨s.all isD=false then 2 else if 9007199254740991<dv 0 s then 9 else 0)],H):=by
 have key:LC Tryz.prog EJ 119 [str s] H=some (.tuple #[.int .i64 (if s= []∨s.all isD=false then 0 else if 9007199254740991<dv 0 s then 0 else(dv 0 s:Nat)),.int .i64 (if s= []∨s.all isD=false then 2 else if 9007199254740991<dv 0 s then 9 else 0)],H):=by
  refine LC_pure rfl Tryz.func119 rfl (by kernel_rfl) rfl ?_
  have h1:=fun H:LH=>digits_l (H:=H) hs
  by_cases h0:s= []
  ·subst h0;simp
  cases ha:s.all isD with
  |false=>
   have hlt:=tw_lt ha
   have q:=eq_true (show((s.takeWhile isD).length:Int)<(s.length:Int) by omega)
   rw [if_pos (.inr rfl),if_pos (.inr rfl)]
   generalize (s.takeWhile isD).length=n at*
   simp [h0,h1,q]
  |true=>
   have e:=tw_all ha
   have hd:digs s:=fun b hb=>List.all_eq_true.mp ha b hb
   have h2:=fun H:LH=>value_l (H:=H) hd hs
   rw [e]at h1
   by_cases hbig:9007199254740991<dv 0 s
   ·have hn: ¬dv 0 s≤9007199254740991:=by omega
    rw [decide_eq_false hn]at h2
    simp [h0,h1,h2,hbig]
   ·have hn:dv 0 s≤9007199254740991:=by omega
    have hC:dC s=dv 0 s:=by unfold dC;rw [if_pos hn]
    rw [decide_eq_true hn,hC]at h2
    simp [h0,h1,h2,hbig]
 refine LC_pure rfl Tryz.func89 rfl (by kernel_rfl) rfl ?_
 simp [key]
end
end Go.Proofs.YteeiipildjgdbaaGreatDoor
namespace Go.Proofs.YteeiipildjgdbaaGreatDoor.Sc
open Go.Lg Go.Tg
section
variable {H:LH} {b:UInt8} {s t:List UInt8}
theorem srow_str {N:Nat} {v:Value} {l:List UInt8} (h:RowN N H 5 1 v l.length (l.map bv)) (hv:v≠.slice none 0 0): ∃k c,v=sl k l.length c∧lconv Tryz.prog 94 9 (sl k l.length c) H=some (str l):=by
 rcases h.2 with⟨e,h0⟩|⟨k,c,rest,e,g1,g2,g3,g4,g5⟩
 ·exact absurd e hv
 ·refine⟨k,c,e,lconv_bs (e:=5) Tryz.underlying94 Tryz.underlying9 Tryz.underlying5 g3 (by simp) ?_⟩
  have:((l.map bv++rest).drop 0).take l.length=l.map bv:=by simp
  rw [this];exact lbs_map l
theorem sbyte_app {v:Value} {N:Nat} {l:List UInt8} {x:UInt8} (h:RowN N H 5 1 v l.length (l.map bv)) (hN:N≤H.n) (hl:l.length≤1000000):
  ∃v' H2,lapp Tryz.prog 94 v (some (1,[.int .u8 x.toNat])) (H.new ⟨[.int .u8 x.toNat],5,true⟩)=some (v',H2)∧RowN N H2 5 1 v' (l++ [x]).length ((l++ [x]).map bv)∧N≤H2.n∧ ∀k,k<N→H2.get k=H.get k:=by
 have h2:RowN N (H.new ⟨[.int .u8 x.toNat],5,true⟩) 5 1 v l.length (l.map bv):=h.keep (Nat.le_succ _) (fun k _ _ hk=>get_new_ne (by omega))
 obtain⟨v',H2,ha,hr,hk,_⟩:=h2.app (t:=94) (new:= [x].map bv) (m:=1) Tryz.underlying94 (by kernel_rfl) (bv_cells [x]) (by simp) (by unfold maxElems;omega) (by rw [n_new];omega) (.inl (Nat.le_refl 1))
 refine⟨v',H2,ha,by rw [List.length_append,List.map_append];exact hr,Nat.le_trans (by rw [n_new];omega) hk.le,fun k hkn=>?_⟩
 rw [hk.get k (by rw [n_new];omega) (h.off_lt hkn),get_new_ne (by omega)]
theorem hexl_at {n:Nat} :at_ [48,49,50,51,52,53,54,55,56,57,97,98,99,100,101,102] (n:Int)=Tg.Sc.hd16 n:=by
 unfold at_ Tg.Sc.hd16;rw [Int.toNat_natCast];rfl
theorem conv3s {y z:UInt8} :lconv Tryz.prog 94 9 (sl H.n 3 3) (H.new ⟨[.int .u8 92,.int .u8 y.toNat,.int .u8 z.toNat],5,true⟩)=some (str [92,y,z]):=
 lconv_bs (e:=5) Tryz.underlying94 Tryz.underlying9 Tryz.underlying5 get_new (by simp) (by show lbs [bv 92,bv y,bv z]=_;exact lbs_map [92,y,z])
theorem mark_cl:LC Tryz.prog EJ 107 [.int .u8 b.toNat] H=some (str (Tg.Sc.mark b),H):=by
 refine LC_pure rfl Tryz.func107 rfl (by kernel_rfl) rfl ?_
 obtain⟨e1,e2,e3,e4⟩:=nib b
 have e1:(b.toNat:Int).fdiv (2^min 4 IntKind.u8.bits)=((b.toNat/16:Nat):Int):=e1
 have g1:=hexl_at (n:=b.toNat/16)
 have g2:=hexl_at (n:=b.toNat%16)
 have q5:=eq_true (show((b.toNat/16:Nat):Int)<16 by omega)
 have q6:=eq_true (show((b.toNat%16:Nat):Int)<16 by omega)
 unfold Tg.Sc.mark
 generalize b.toNat/16=n1 at*
 generalize b.toNat%16=n2 at*
 have hw: ∀n:Nat,n<16→IntKind.u8.wrap (n:Int)=(n:Int):=fun n h=>by rw [wrap8];omega
 have hwa:=hw n1 e3
 have hwb:=hw n2 e4
 simp [e1,e2,g1,g2,q5,q6,hwa,hwb,conv3s]
theorem flat_drop {i:Nat} (h:i<s.length):(s.drop i).flatMap Tg.Sc.sign=Tg.Sc.sign s[i]++(s.drop (i+1)).flatMap Tg.Sc.sign:=by
 rw [List.drop_eq_getElem_cons h,List.flatMap_cons]
theorem escape_cl (hs:s.length≤300000):LC Tryz.prog EJ 80 [str s] H=some (str (Tg.Sc.esc s),H):=by
 refine LC_pure rfl Tryz.func80 rfl (by kernel_rfl) rfl ?_
 unfold Tg.Sc.esc
 by_cases h0:s= []
 ·subst h0;simp
 by_cases h1:s= [45]
 ·subst h1
  have hm:=fun H:LH=>mark_cl (H:=H) (b:=45)
  have hm: ∀H:LH,LC Tryz.prog EJ 107 [.int .u8 45] H=some (str (Tg.Sc.mark 45),H):=hm
  have a0:at_ [45] 0=(45:UInt8):=rfl
  have a1:(UInt8.toNat 45:Int)=45:=rfl
  simp [a0,a1,hm]
 rw [if_neg h0,if_neg h1]
 simp [h0,h1]
 have hN:H.n≤H.n:=Nat.le_refl _
 refine loop_ind (fun(i:Nat) fr' H'=>fr' 0=str s∧fr' 3=ptr H.n 0∧fr' 14=.int .i64 s.length∧fr' 15=.int .i64 i∧i≤s.length∧(∃l v,Bld H.n H' H.n l v∧s.flatMap Tg.Sc.sign=l++(s.drop i).flatMap Tg.Sc.sign∧l.length≤3*i)∧ ∀k,k<H.n→H'.get k=H.get k) (fun i=>s.length-i) 0 ⟨by simp,by simp,by simp,by simp,Nat.zero_le _,⟨[],_,Bld.first,by simp,by simp⟩,fun k hk=>get_new_ne (by omega)⟩ ?_
 rintro i fr' H' ⟨f0,f3,f14,f15,hi,⟨l,v,hb,hq,hl⟩,hle⟩ ih
 by_cases hlt:i<s.length
 ·have q0:=eq_true (show(i:Int)<(s.length:Int) by omega)
  have hat:at_ s (i:Int)=s[i]:=at_in hlt
  have hw1:IntKind.i64.wrap ((i:Int)+1)=((i+1:Nat):Int):=by rw [wrapI (by omega) (by omega)];omega
  rw [flat_drop hlt]at hq
  generalize s[i]=c at*
  have hsl:(Tg.Sc.sign c).length≤3:=by unfold Tg.Sc.sign Tg.Sc.mark;split<;>simp
  by_cases ho:Tg.Sc.odd c=true
  ·have hsg:Tg.Sc.sign c=Tg.Sc.mark c:=if_pos ho
   rw [hsg]at hq hsl
   obtain⟨v',H2,w1,w2,w3⟩:=wstr_k (s:=Tg.Sc.mark c) hb hN (by unfold maxElems;omega)
   have hmk:=fun H:LH=>mark_cl (H:=H) (b:=c)
   have hfin:=fun fr2 (g0:fr2 0=str s) (g3:fr2 3=ptr H.n 0) (g14:fr2 14=.int .i64 s.length) (g15:fr2 15=.int .i64 ((i+1:Nat):Int))=>ih (i+1) fr2 H2 (by omega) ⟨g0,g3,g14,g15,by omega,⟨l++Tg.Sc.mark c,v',w2,by rw [hq,List.append_assoc],by rw [List.length_append];omega⟩,fun k hk=>by rw [w3 k hk,hle k hk]⟩
   clear ih w2 w3 hq
   unfold Tg.Sc.odd at ho
   generalize Tg.Sc.mark c=m at*
   by_cases o1:(c.toNat:Int)<33
   ·simp [f0,f3,f14,f15,q0,hat,o1,hmk,w1]
    refine hfin _ ?_ ?_ ?_ ?_
    all_goals simp [f0,f3,f14,hw1]
   ·have o1:=eq_false o1
    by_cases o2:(126:Int)<c.toNat
    ·simp [f0,f3,f14,f15,q0,hat,o1,o2,hmk,w1]
     refine hfin _ ?_ ?_ ?_ ?_
     all_goals simp [f0,f3,f14,hw1]
    ·have o2:=eq_false o2
     have o3:((c.toNat:Int)=92)=True:=by
      simp only [o1,o2,decide_false,Bool.false_or,decide_eq_true_eq]at ho
      exact eq_true ho
     simp [f0,f3,f14,f15,q0,hat,o1,o2,o3,hmk,w1]
     refine hfin _ ?_ ?_ ?_ ?_
     all_goals simp [f0,f3,f14,hw1]
  ·have hsg:Tg.Sc.sign c= [c]:=if_neg ho
   rw [hsg]at hq hsl
   obtain⟨v',H2,w1,w2,w3⟩:=wbyte_k (c:=c) hb hN (by unfold maxElems;omega)
   have hfin:=fun fr2 (g0:fr2 0=str s) (g3:fr2 3=ptr H.n 0) (g14:fr2 14=.int .i64 s.length) (g15:fr2 15=.int .i64 ((i+1:Nat):Int))=>ih (i+1) fr2 H2 (by omega) ⟨g0,g3,g14,g15,by omega,⟨l++ [c],v',w2,by rw [hq,List.append_assoc],by rw [List.length_append];simp;omega⟩,fun k hk=>by rw [w3 k hk,hle k hk]⟩
   clear ih w2 w3 hq
   unfold Tg.Sc.odd at ho
   simp only [Bool.not_eq_true,Bool.or_eq_false_iff,decide_eq_false_iff_not]at ho
   obtain⟨⟨o1,o2⟩,o3⟩:=ho
   have o1:=eq_false o1
   have o2:=eq_false o2
   have o3:=eq_false o3
   simp [f0,f3,f14,f15,q0,hat,o1,o2,o3,w1]
   refine hfin _ ?_ ?_ ?_ ?_
   all_goals simp [f0,f3,f14,hw1]
 ·have q0:=eq_false (show¬(i:Int)<(s.length:Int) by omega)
  rw [List.drop_of_length_le (by omega),List.flatMap_nil,List.append_nil]at hq
  obtain⟨H2,b1,b2,b3⟩:=bstr_ex hb (by unfold maxLen;omega)
  simp [f0,f3,f14,f15,q0,b1,hq]
  exact⟨by have:=hb.lt;omega,fun k hk=>by rw [b3 k hk,hle k hk]⟩
theorem hexs_cl:LC Tryz.prog EJ 95 [.int .u8 b.toNat] H=some (.tuple #[.int .i64 (Tg.Sc.hexv b:Nat),.bool (Tg.Ur.hx b).isSome],H):=by
 rw [hex_cl,Tg.Sc.hexv_hx]
theorem two_F: ∀k:Fin 16,∀l:Fin 16,IntKind.u8.wrap (bOr .i64 (IntKind.i64.wrap ((k.1:Int)*2^(min 4 IntKind.i64.bits))) (l.1:Int))=((k.1*16+l.1:Nat):Int):=by decide+kernel
theorem two_b {x y:Nat} (hx:x<16) (hy:y<16):IntKind.u8.wrap (bOr .i64 (IntKind.i64.wrap ((x:Int)*2^(min 4 IntKind.i64.bits))) (y:Int))=((UInt8.ofNat (x*16+y)).toNat:Int):=by
 have h:=two_F ⟨x,hx⟩ ⟨y,hy⟩
 dsimp only at h
 rw [h]
 have:(UInt8.ofNat (x*16+y)).toNat=x*16+y:=by
  rw [UInt8.toNat_ofNat'];omega
 rw [this]
theorem conv_nil:lconv Tryz.prog 94 9 (.slice none 0 0) H=some (str []):=by kernel_rfl
theorem plain_cl (hs:s.length≤300000):LC Tryz.prog EJ 69 [str s] H=some (.tuple #[str (Tg.Sc.plainT s),.bool (Tg.Sc.plainB s)],H):=by
 refine LC_pure rfl Tryz.func69 rfl (by kernel_rfl) rfl ?_
 have hpl:=Tg.Sc.plain_len s
 have hesc:=fun H:LH=>escape_cl (H:=H) (s:=Tg.Sc.plainT s) (by omega)
 have hpb:Tg.Sc.plainB s=decide (Tg.Sc.esc (Tg.Sc.plainT s)=s):=rfl
 rw [hpb]
 simp
 by_cases h1:s= [45]
 ·subst h1
  have hp:Tg.Sc.plainT [45]= []:=rfl
  rw [hp]at hesc⊢
  refine loop_ind (fun(i:Nat) fr' H'=>fr' 0=str [45]∧fr' 4=.slice none 0 0∧fr' 5=.int .i64 0∧H'=H) (fun i=>0) 0 ⟨by simp,by simp,by simp,rfl⟩ ?_
  rintro i fr' H' ⟨f0,f4,f5,rfl⟩ ih
  simp [f0,f4,f5,hesc,conv_nil]
 ·have hpt:Tg.Sc.plainT s=Tg.Sc.dec s:=if_neg h1
  refine loop_ind (fun(i:Nat) fr' H'=> ∃acc v,fr' 0=str s∧fr' 4=v∧fr' 5=.int .i64 i∧i≤s.length∧acc++Tg.Sc.dec (s.drop i)=Tg.Sc.dec s∧acc.length≤i∧RowN H.n H' 5 1 v acc.length (acc.map bv)∧H.n≤H'.n∧ ∀k,k<H.n→H'.get k=H.get k) (fun i=>s.length-i) 0 ⟨[],.slice none 0 0,by simp,by simp,by simp,Nat.zero_le _,by simp,by simp,RowN.nil,Nat.le_refl _,fun k hk=>rfl⟩ ?_
  rintro i fr' H' ⟨acc,v,f0,f4,f5,hi,hd,hal,hrow,hn,hle⟩ ih
  subst f4
  by_cases hlt:i<s.length
  ·have q0:=eq_true (show(i:Int)<(s.length:Int) by omega)
   have hat:at_ s (i:Int)=s[i]:=at_in hlt
   have hw1:IntKind.i64.wrap ((i:Int)+1)=(i:Int)+1:=wrapI (by omega) (by omega)
   have hw2:IntKind.i64.wrap ((i:Int)+2)=(i:Int)+2:=wrapI (by omega) (by omega)
   have hw3:IntKind.i64.wrap ((i:Int)+2+1)=(i:Int)+3:=by rw [wrapI (by omega) (by omega)];omega
   rw [List.drop_eq_getElem_cons hlt]at hd
   by_cases hb:s[i]=92∧i+2<s.length
   ·obtain⟨hb,hlt2⟩:=hb
    have q2:=eq_true (show(i:Int)+2<(s.length:Int) by omega)
    have q1:=eq_true (show(i:Int)+1<(s.length:Int) by omega)
    have hat1:at_ s ((i:Int)+1)=s[i+1]:=at_in (i:=i+1) (by omega)
    have hat2:at_ s ((i:Int)+2)=s[i+2]:=at_in (i:=i+2) hlt2
    have hx1:=fun H:LH=>hexs_cl (H:=H) (b:=s[i+1])
    have hx2:=fun H:LH=>hexs_cl (H:=H) (b:=s[i+2])
    have h2:=two_b (Tg.Sc.hexv_lt s[i+1]) (Tg.Sc.hexv_lt s[i+2])
    rw [List.drop_eq_getElem_cons (show i+1<s.length by omega),List.drop_eq_getElem_cons (show i+1+1<s.length by omega),hb,Tg.Sc.dec_two]at hd
    have e3:Tg.Sc.byte2 s[i+1] s[i+1+1]=UInt8.ofNat (Tg.Sc.hexv s[i+1]*16+Tg.Sc.hexv s[i+2]):=rfl
    rw [e3]at hd
    generalize UInt8.ofNat (Tg.Sc.hexv s[i+1]*16+Tg.Sc.hexv s[i+2])=c at*
    obtain⟨v',H2,ha,hr,hn2,hk2⟩:=sbyte_app (x:=c) hrow hn (by omega)
    have hfin:=fun fr2 (g0:fr2 0=str s) (g4:fr2 4=v') (g5:fr2 5=.int .i64 ((i+3:Nat):Int))=>ih (i+3) fr2 H2 (by omega) ⟨acc++ [c],v',g0,g4,g5,by omega,by rw [List.append_assoc];exact hd,by rw [List.length_append];simp;omega,hr,hn2,fun k hk=>by rw [hk2 k hk,hle k hk]⟩
    clear ih hd hr
    generalize s[i+1]=y1 at*
    generalize s[i+2]=y2 at*
    have p1:=eq_true (show(0:Int)≤(i:Int)+1 by omega)
    have p2:=eq_true (show(0:Int)≤(i:Int)+2 by omega)
    simp [f0,f5,q0,h1,hat,hb,q2,q1,hat1,hat2,hx1,hx2,h2,hw1,hw2,ha,p1,p2]
    refine hfin _ ?_ ?_ ?_
    all_goals simp [f0,hw1,hw2,hw3]
   ·have hdd:Tg.Sc.dec (s[i]::s.drop (i+1))=s[i]::Tg.Sc.dec (s.drop (i+1)):=by
     by_cases h9:s[i]=92
     ·have hsh: ¬i+2<s.length:=fun h=>hb ⟨h9,h⟩
      exact Tg.Sc.dec_short (by rw [List.length_drop];omega)
     ·exact Tg.Sc.dec_one h9 _
    rw [hdd]at hd
    obtain⟨v',H2,ha,hr,hn2,hk2⟩:=sbyte_app (x:=s[i]) hrow hn (by omega)
    have hfin:=fun fr2 (g0:fr2 0=str s) (g4:fr2 4=v') (g5:fr2 5=.int .i64 ((i+1:Nat):Int))=>ih (i+1) fr2 H2 (by omega) ⟨acc++ [s[i]],v',g0,g4,g5,by omega,by rw [List.append_assoc];exact hd,by rw [List.length_append];simp;omega,hr,hn2,fun k hk=>by rw [hk2 k hk,hle k hk]⟩
    have q9:s[i]≠92→(((s[i]'hlt).toNat:Int)=92)=False:=fun h=>eq_false (fun e=>h (UInt8.toNat_inj.mp (by show(s[i]'hlt).toNat=92;omega)))
    clear ih hd hr
    generalize s[i]=c at*
    by_cases h9:c=92
    ·have hsh: ¬i+2<s.length:=fun h=>hb ⟨h9,h⟩
     have q9:((c.toNat:Int)=92)=True:=eq_true (by rw [h9];rfl)
     have q2:=eq_false (show¬(i:Int)+2<(s.length:Int) by omega)
     simp [f0,f5,q0,h1,hat,q2,hw2,q9,ha]
     refine hfin _ ?_ ?_ ?_
     all_goals simp [f0,hw1]
    ·have q9:=q9 h9
     simp [f0,f5,q0,h1,hat,q9,ha]
     refine hfin _ ?_ ?_ ?_
     all_goals simp [f0,hw1]
  ·have q0:=eq_false (show¬(i:Int)<(s.length:Int) by omega)
   rw [List.drop_of_length_le (by omega),Tg.Sc.dec_nil,List.append_nil]at hd
   subst hd
   rw [hpt]at hesc⊢
   rcases hrow.2 with⟨e,h9⟩|⟨k,c,rest,e,_⟩
   ·have hnil:Tg.Sc.dec s= []:=List.eq_nil_of_length_eq_zero h9
    rw [hnil]at hesc⊢
    simp [f0,e,f5,q0,hesc,conv_nil]
    exact⟨hn,hle⟩
   ·obtain⟨k2,c2,e2,hcv⟩:=srow_str hrow (by rw [e];simp)
    simp [f0,e2,f5,q0,hcv,hesc]
    exact⟨hn,hle⟩
end
end Go.Proofs.YteeiipildjgdbaaGreatDoor.Sc
namespace Go.Proofs.YteeiipildjgdbaaGreatDoor
open Go.Lg Go.Tg
section
variable {H:LH} {b:UInt8} {s t:List UInt8}
theorem plain_cl:LC Tryz.prog EJ 265 [.int .u8 b.toNat] H=some (.bool (Tg.Ur.isName b),H):=by
 refine LC_pure rfl Tryz.func265 rfl (by kernel_rfl) rfl ?_
 unfold Tg.Ur.isName
 have hd:=fun H:LH=>Digit_cl (H:=H) (b:=b)
 have e:Tg.Ur.isD b=(decide ((48:Int)≤b.toNat)&&decide ((b.toNat:Int)≤57)):=rfl
 rw [←e]
 by_cases h3:b=46
 ·subst h3
  have hd: ∀H:LH,LC Tryz.prog EJ 165 [.int .u8 46] H=some (.bool false,H):=hd
  simp [hd]
 by_cases h4:b=45
 ·subst h4
  have hd: ∀H:LH,LC Tryz.prog EJ 165 [.int .u8 45] H=some (.bool false,H):=hd
  simp [hd]
 by_cases h1:(97:Int)≤b.toNat<;>by_cases h2:(b.toNat:Int)≤122<;>cases h5:Tg.Ur.isD b<;>rw [h5]at hd<;>simp [h1,h2,h3,h4,hd]
theorem two_dots: ∀s:List UInt8,Lib.contains s [46,46]=Tg.Ur.twoDots s
 | []=>rfl
 | [b]=>by
  unfold Tg.Ur.twoDots Lib.contains Lib.index
  by_cases hb:b=46<;>simp [hb,Lib.index,Tg.Ur.twoDots,List.isPrefixOf]
 |b::c::r=>by
  have ih:=two_dots (c::r)
  have hge:=Lib.index_ge (c::r) [46,46]
  unfold Lib.contains at ih⊢
  unfold Lib.index
  by_cases h:b=46∧c=46
  ·obtain⟨rfl,rfl⟩:=h
   simp [Tg.Ur.twoDots,List.isPrefixOf]
  ·have hp:List.isPrefixOf [46,46] (b::c::r)=false:=by
    simp only [List.isPrefixOf,Bool.and_true]
    rw [Bool.eq_false_iff]
    intro e
    simp at e
    exact h ⟨e.1.symm,e.2.symm⟩
   have ht:Tg.Ur.twoDots (b::c::r)=Tg.Ur.twoDots (c::r):=by
    conv=>lhs;unfold Tg.Ur.twoDots
    split
    ·rename_i e;simp at e;exact absurd ⟨e.1,e.2.1⟩ h
    ·rename_i e;simp at e;rw [←e.2]
    ·rename_i e;simp at e
   rw [hp,ht,←ih]
   simp only [Bool.false_eq_true,if_false]
   by_cases hm:Lib.index (c::r) [46,46]= -1
   ·simp [hm]
   ·have:(Lib.index (c::r) [46,46]== -1)=false:=by simp [hm]
    rw [this]
    simp only [Bool.false_eq_true,if_false,decide_eq_decide]
    omega
theorem named_cl (hs:s.length≤1048576) (hm:MaxL H):LC Tryz.prog EJ 233 [str s] H=some (.bool (Tg.Ur.named s),H):=by
 refine LC_pure rfl Tryz.func233 rfl (by kernel_rfl) rfl ?_
 have hall:=fun H:LH=>all_cl (H:=H) (g:=265) (q:=Tg.Ur.isName) (fun b H=>plain_cl) (s:=s) (by omega)
 have hcon:=contains_l (H:=H) (s:=s) (p:= [46,46]) (by omega) (.inr hm)
 rw [two_dots]at hcon
 unfold Tg.Ur.named
 cases s with
 |nil=>simp
 |cons c r=>
  have a0:at_ (c::r) 0=c:=rfl
  by_cases h2:(r.length:Int)+1≤253
  ·have q2:r.length+1≤253:=by omega
   cases h3:(c::r).all Tg.Ur.isName with
   |false=>
    rw [h3]at hall
    simp only [List.all_cons]at h3
    simp [h2,hall,h3]
   |true=>
    rw [h3]at hall
    simp only [List.all_cons]at h3
    have q4:=eq_true (show(0:Int)<(r.length:Int)+1 by omega)
    by_cases h4:c=46
    ·subst h4;simp [h2,q2,q4,hall,h3,a0]
    ·simp [h2,q2,q4,hall,h3,h4,a0,hcon]
  ·have q2: ¬r.length+1≤253:=by omega
   simp [h2,q2]
theorem any_free (p s:List UInt8):decide (0≤Lib.indexAny s p)=!Tg.Ur.free p s:=by
 unfold Tg.Ur.free
 induction s with
 |nil=>simp [Lib.indexAny]
 |cons b r ih=>
  have hge:=Lib.indexAny_ge p r
  unfold Lib.indexAny
  cases hc:p.contains b with
  |true=>simp only [List.all_cons,hc];simp
  |false=>
   simp only [List.all_cons,hc,Bool.not_false,Bool.true_and,Bool.false_eq_true,if_false]
   rw [←ih]
   by_cases hm:Lib.indexAny r p= -1
   ·simp [hm]
   ·have:(Lib.indexAny r p== -1)=false:=by simp [hm]
    rw [this]
    simp only [Bool.false_eq_true,if_false,decide_eq_decide]
    omega
theorem anyOf_cl {p:List UInt8} (h1:s.length<4294967281) (h2:p.length<4294967281) (h4:ascL p):LC Tryz.prog EJ 198 [str s,str p] H=some (.bool (!Tg.Ur.free p s),H):=by
 refine LC_pure rfl Tryz.func198 rfl (by kernel_rfl) rfl ?_
 have hi:=fun H:LH=>indexAny_l (H:=H) (s:=s) h1 h2 h4
 have hf:=any_free p s
 by_cases h0:0≤Lib.indexAny s p
 ·rw [decide_eq_true h0]at hf
  simp [hi,h0,←hf]
 ·rw [decide_eq_false h0]at hf
  simp [hi,h0,←hf]
theorem hash_cl (h1:s.length<4294967281):LC Tryz.prog EJ 232 [str s,str [35]] H=some (.bool (!Tg.Ur.free [35] s),H):=by
 rw [contains_l h1 (.inl rfl)]
 have:Lib.contains s [35]=!Tg.Ur.free [35] s:=by
  unfold Lib.contains
  rw [Lib.index_one,←Lib.indexAny_one,any_free]
 rw [this]
abbrev uv (u:Tg.Ur.Url):Value:=.agg #[str u.scheme,str u.host,.int .i64 u.port,str u.path,str u.query]
abbrev ub (u:Tg.Ur.Url):LB:=⟨[str u.scheme,str u.host,.int .i64 u.port,str u.path,str u.query],233,true⟩
def placeB (u:Tg.Ur.Url):Bool:=decide (u.port=0)||(decide (1≤u.port)&&decide (u.port≤65535)&&decide (u.port≠Tg.Ur.own u.scheme))
def pathB (u:Tg.Ur.Url):Bool:=decide (u.path[0]?=some 47)&&decide (Tg.Ur.dots u.path=u.path)&&decide (Tg.Ur.qt u.path=u.path)&&Tg.Ur.free [63,35] u.path
def queryB (u:Tg.Ur.Url):Bool:=decide (u.query= [])||(decide (u.query[0]?=some 63)&&decide (Tg.Ur.qt u.query=u.query)&&Tg.Ur.free [35] u.query)
theorem good_eq (u:Tg.Ur.Url):Tg.Ur.good u=(decide (Tg.Ur.own u.scheme≠0)&&placeB u&&pathB u&&queryB u&&Tg.Ur.named u.host):=rfl
theorem good_cl {u:Tg.Ur.Url} (h1:u.host.length≤1048576) (h2:u.path.length≤90000) (h3:u.query.length≤90000) (hm:MaxL H):LC Tryz.prog EJ 205 [uv u] H=some (.bool (Tg.Ur.good u),H):=by
 refine LC_pure rfl Tryz.func205 rfl (by kernel_rfl) rfl ?_
 have hle:H.le (H.new (ub u)):=le_refl.new
 refine runs_cut 5 (fun fr' H'=>fr' 1=ptr H.n 0∧fr' 3=.int .i64 (Tg.Ur.own u.scheme)∧fr' 4=.bool (placeB u)∧fr' 5=.bool (pathB u)∧fr' 6=.bool (queryB u)∧H'=H.new (ub u)) ?_ (fun K5 hK5=>?_) rfl
 ·rintro fr' H' ⟨f1,f3,f4,f5,f6,rfl⟩
  have hn:=named_cl (H:=H.new (ub u)) (s:=u.host) h1 hm
  rw [good_eq]
  by_cases h0:Tg.Ur.own u.scheme=0
  ·simp [f1,f3,h0,hle]
  cases hp:placeB u with
  |false=>simp [f1,f3,f4,hp,h0,hle]
  |true=>
   cases hq:pathB u with
   |false=>simp [f1,f3,f4,f5,hp,hq,h0,hle]
   |true=>
    cases hr:queryB u with
    |false=>simp [f1,f3,f4,f5,f6,hp,hq,hr,h0,hle]
    |true=>simp [f1,f3,f4,f5,f6,hp,hq,hr,h0,hle,hn]
 refine runs_cut 4 (fun fr' H'=>fr' 1=ptr H.n 0∧fr' 3=.int .i64 (Tg.Ur.own u.scheme)∧fr' 4=.bool (placeB u)∧fr' 5=.bool (pathB u)∧H'=H.new (ub u)) ?_ (fun K4 hK4=>?_) rfl
 ·rintro fr' H' ⟨f1,f3,f4,f5,rfl⟩
  have hq:=fun H:LH=>quote_cl (H:=H) (s:=u.query) (by omega)
  have hh:=fun H:LH=>hash_cl (H:=H) (s:=u.query) (by omega)
  have hfin:=fun fr' (g:fr' 1=ptr H.n 0∧fr' 3=.int .i64 (Tg.Ur.own u.scheme)∧fr' 4=.bool (placeB u)∧fr' 5=.bool (pathB u)) (g6:fr' 6=.bool (queryB u))=>hK5 fr' (H.new (ub u)) ⟨g.1,g.2.1,g.2.2.1,g.2.2.2,g6,rfl⟩
  unfold queryB at hfin
  clear hK5
  obtain⟨sch,hst,prt,pth,q⟩:=u
  simp only at*
  cases q with
  |nil=>
   simp [f1]
   exact hfin _ (by simp [f1,f3,f4,f5]) (by simp)
  |cons c r=>
   have a0:at_ (c::r) 0=c:=rfl
   have q1:=eq_true (show(0:Int)<(r.length:Int)+1 by omega)
   by_cases hc:c=63
   ·subst hc
    by_cases he:Tg.Ur.qt (63::r)=63::r
    ·cases hf:Tg.Ur.free [35] (63::r)with
     |false=>
      rw [hf]at hh
      simp [f1,a0,q1,hq,he,hh]
      exact hfin _ (by simp [f1,f3,f4,f5]) (by simp [he,hf])
     |true=>
      rw [hf]at hh
      simp [f1,a0,q1,hq,he,hh]
      exact hfin _ (by simp [f1,f3,f4,f5]) (by simp [he,hf])
    ·simp [f1,a0,q1,hq,he]
     exact hfin _ (by simp [f1,f3,f4,f5]) (by simp [he])
   ·simp [f1,a0,q1,hc]
    exact hfin _ (by simp [f1,f3,f4,f5]) (by simp [hc])
 refine runs_cut 3 (fun fr' H'=>fr' 1=ptr H.n 0∧fr' 3=.int .i64 (Tg.Ur.own u.scheme)∧fr' 4=.bool (placeB u)∧H'=H.new (ub u)) ?_ (fun K3 hK3=>?_) rfl
 ·rintro fr' H' ⟨f1,f3,f4,rfl⟩
  have hq:=fun H:LH=>quote_cl (H:=H) (s:=u.path) (by omega)
  have hd:=dots_cl (H:=H.new (ub u)) (s:=u.path) (by omega) hm
  have hh:=fun H:LH=>anyOf_cl (H:=H) (s:=u.path) (p:= [63,35]) (by omega) (by decide) (by intro b hb;simp at hb;rcases hb with rfl|rfl<;>decide)
  have hfin:=fun fr' (g:fr' 1=ptr H.n 0∧fr' 3=.int .i64 (Tg.Ur.own u.scheme)∧fr' 4=.bool (placeB u)) (g5:fr' 5=.bool (pathB u))=>hK4 fr' (H.new (ub u)) ⟨g.1,g.2.1,g.2.2,g5,rfl⟩
  unfold pathB at hfin
  clear hK4
  obtain⟨sch,hst,prt,p,qry⟩:=u
  simp only at*
  cases p with
  |nil=>
   simp [f1]
   exact hfin _ (by simp [f1,f3,f4]) (by simp)
  |cons c r=>
   have a0:at_ (c::r) 0=c:=rfl
   have q1:=eq_true (show(0:Int)<(r.length:Int)+1 by omega)
   by_cases hc:c=47
   ·subst hc
    by_cases hdd:Tg.Ur.dots (47::r)=47::r
    ·by_cases he:Tg.Ur.qt (47::r)=47::r
     ·cases hf:Tg.Ur.free [63,35] (47::r)with
      |false=>
       rw [hf]at hh
       simp [f1,a0,q1,hd,hdd,hq,he,hh]
       exact hfin _ (by simp [f1,f3,f4]) (by simp [hdd,he,hf])
      |true=>
       rw [hf]at hh
       simp [f1,a0,q1,hd,hdd,hq,he,hh]
       exact hfin _ (by simp [f1,f3,f4]) (by simp [hdd,he,hf])
     ·simp [f1,a0,q1,hd,hdd,hq,he]
      exact hfin _ (by simp [f1,f3,f4]) (by simp [hdd,he])
    ·simp [f1,a0,q1,hd,hdd]
     exact hfin _ (by simp [f1,f3,f4]) (by simp [hdd])
   ·simp [f1,a0,q1,hc]
    exact hfin _ (by simp [f1,f3,f4]) (by simp [hc])
 have ho:=fun H:LH=>own_l (H:=H) (s:=u.scheme)
 unfold placeB at hK3
 by_cases p0:u.port=0
 ·obtain⟨sch,hst,prt,pth,q⟩:=u
  simp only at p0 ho hK3
  subst p0
  simp [ho]
  exact hK3 _ _ ⟨by simp,by simp,by simp,rfl⟩
 ·by_cases p1:1≤u.port
  ·by_cases p2:u.port≤65535
   ·by_cases p3:u.port=Tg.Ur.own u.scheme
    ·have q3:=eq_true p3
     simp [ho,p0,p1,p2,q3]
     exact hK3 _ _ ⟨by simp,by simp,by simp [p0,p1,p2,q3],rfl⟩
    ·have q3:=eq_false p3
     simp [ho,p0,p1,p2,q3]
     exact hK3 _ _ ⟨by simp,by simp,by simp [p0,p1,p2,q3],rfl⟩
   ·have q2:=eq_false p2
    simp [ho,p0,p1,q2]
    exact hK3 _ _ ⟨by simp,by simp,by simp [p0,p1,q2],rfl⟩
  ·have q1:=eq_false p1
   simp [ho,p0,q1]
   exact hK3 _ _ ⟨by simp,by simp,by simp [p0,q1],rfl⟩
end
end Go.Proofs.YteeiipildjgdbaaGreatDoor
namespace Tg.Ur
def textP (u:Url):List UInt8:=u.scheme++ [58,47,47]++u.host++(if u.port≠0 then 58::Go.Lib.itoa u.port else [])++u.path++u.query
def text (u:Url):List UInt8:=if good u then textP u else []
def port (u:Url):Int:=if own u.scheme=0∨u.port=0 then own u.scheme else u.port
def origin (u:Url):List UInt8:=if good u then u.scheme++ [58,47,47]++u.host++ [58]++Go.Lib.itoa (port u)else []
end Tg.Ur
namespace Go.Proofs.YteeiipildjgdbaaGreatDoor
open Go.Lg Go.Tg
section
variable {H:LH} {b:UInt8} {s t:List UInt8}
@[simp] theorem lfill_cell' {P:Program} {t:TypeId} {cs:List Value} {i:Nat} {q:Nat×Nat×Bool} {v:Value} {ps:List (Nat×Value)} (hf:fldi P t i=some q) (hn:q.2.1=1) (hv:cellB v=true) (ho:q.1<cs.length):lfill P t cs ((i,v)::ps)=lfill P t (cs.set q.1 v) ps:=by
 obtain⟨o,n,g⟩:=q
 exact lfill_cell hf hn hv ho
end
end Go.Proofs.YteeiipildjgdbaaGreatDoor
namespace Go.Lg
theorem eqIn_int {P:Program} {d:Nat} {t:TypeId} {k:IntKind} {a b:Int} (hu:P.underlying t=some (.int k)):pureVal P (Op.equalIn (d+1) t (.int k a) (.int k b))=some (a==b):=by
 unfold Op.equalIn
 simp only [pureVal_bind,pureVal_und,hu,Option.bind_some,pureVal_pure,if_true]
theorem eqIn_str {P:Program} {d:Nat} {t:TypeId} {a b:List UInt8} (hu:P.underlying t=some .string):pureVal P (Op.equalIn (d+1) t (str a) (str b))=some (decide (a=b)):=by
 unfold Op.equalIn
 simp only [pureVal_bind,pureVal_und,hu,Option.bind_some,str]
 show some _=_
 congr 1
 rw [Bool.eq_iff_iff,Go.MapKept.bytes_beq];simp
theorem eqIn_bool {P:Program} {d:Nat} {t:TypeId} {a b:Bool} (hu:P.underlying t=some .bool):pureVal P (Op.equalIn (d+1) t (.bool a) (.bool b))=some (a==b):=by
 unfold Op.equalIn
 simp only [pureVal_bind,pureVal_und,hu,Option.bind_some,pureVal_pure]
theorem part_cell {P:Program} {t:TypeId} {cs:Array Value} {o:Nat} {v:Value} (ha:aggB P t=some false) (h:cs[o]?=some v):pureVal P (part t cs o)=some v:=by
 unfold part
 have:pureVal P (isAgg t)=some false:=by
  unfold aggB at ha
  unfold isAgg
  obtain⟨d,hd,hf⟩:=Option.map_eq_some_iff.1 ha
  simp only [pureVal_bind,pureVal_und,hd,Option.bind_some]
  cases d<;>first|rfl|(simp [aggD]at hf)
 simp only [pureVal_bind,this,Option.bind_some,h]
 rfl
end Go.Lg
namespace Go.Proofs.YteeiipildjgdbaaGreatDoor
open Go.Lg Go.Tg
section
abbrev p3 (a b:List UInt8) (n:Int):Value:=.agg #[str a,str b,.int .i64 n]
end
section
variable {H:LH} {b:UInt8} {s t:List UInt8} {u v:Tg.Ur.Url}
structure Small (u:Tg.Ur.Url):Prop where
 host:u.host.length≤30000
 path:u.path.length≤80000
 query:u.query.length≤80000
 scheme:u.scheme.length≤30000
 lo: -9223372036854775808≤u.port
 hi:u.port≤9223372036854775807
theorem itoa_cl {n:Int} (h1: -9223372036854775808≤n) (h2:n≤9223372036854775807) (ht:Tab10 H):LC Tryz.prog EJ 23 [.int .i64 n] H=some (str (Lib.itoa n),H):=by
 refine LC_pure rfl Tryz.func23 rfl (by kernel_rfl) rfl ?_
 simp [itoa_l h1 h2 ht]
end
end Go.Proofs.YteeiipildjgdbaaGreatDoor
namespace Tg.Hd
structure FineP (h:Hdr):Prop where
 ne:h.1≠ []
 tok: ∀b∈h.1,tok b=true
 trim:trim h.2=h.2
 free: ∀b∈h.2,b≠0∧b≠13∧b≠10
 len:h.2.length≤8192
end Tg.Hd
namespace Go.Proofs.YteeiipildjgdbaaGreatDoor
open Go.Lg Go.Tg
section
variable {H:LH} {b:UInt8} {s t:List UInt8}
theorem white_cl:LC Tryz.prog EJ 224 [.int .u8 b.toNat] H=some (.bool (Tg.Hd.white b),H):=by
 refine LC_pure rfl Tryz.func224 rfl (by kernel_rfl) rfl ?_
 by_cases h1:b=9
 ·subst h1;simp [Tg.Hd.white]
 by_cases h2:b=10
 ·subst h2;simp [Tg.Hd.white]
 by_cases h3:b=13
 ·subst h3;simp [Tg.Hd.white]
 by_cases h4:b=32
 ·subst h4;simp [Tg.Hd.white]
 simp [Tg.Hd.white,h1,h2,h3,h4]
theorem end_cl {g:FuncId} {q:UInt8→Bool} (hg: ∀(b:UInt8) (H:LH),LC Tryz.prog EJ g [.int .u8 b.toNat] H=some (.bool (q b),H)) (hs:s.length≤9223372036854775806):
  LC Tryz.prog EJ 223 [str s,.func (.func g) #[] #[]] H=some (.int .i64 ((s.reverse.dropWhile q).length:Nat),H):=by
 refine LC_pure rfl Tryz.func223 rfl (by kernel_rfl) rfl ?_
 obtain⟨x,hx⟩: ∃x,x=(s.reverse.dropWhile q).length:=⟨_,rfl⟩
 rw [←hx]
 simp
 refine loop_ind (fun(i:Nat) fr' H'=>fr' 0=str s∧fr' 1=.func (.func g) #[] #[]∧fr' 5=.int .i64 i∧i≤s.length∧x=((s.take i).reverse.dropWhile q).length∧H'=H) (fun i=>i) s.length ⟨by simp,by simp,by simp,Nat.le_refl _,by rw [List.take_length];exact hx,rfl⟩ ?_
 rintro i fr' H' ⟨h0,h1,h5,hi,hc,rfl⟩ ih
 by_cases hz:0<i
 ·have q0:=eq_true (show(0:Int)<(i:Int) by omega)
  have hlt:i-1<s.length:=by omega
  have hw:IntKind.i64.wrap ((i:Int)-1)=((i-1:Nat):Int):=by rw [wrapI (by omega) (by omega)];omega
  have hat:at_ s ((i-1:Nat):Int)=s[i-1]:=at_in hlt
  have q1:=eq_true (show((i-1:Nat):Int)<(s.length:Int) by omega)
  have e:s.take i=s.take (i-1)++ [s[i-1]]:=by
   have:=List.take_succ_eq_append_getElem hlt
   rw [show i-1+1=i by omega]at this
   exact this
  rw [e,List.reverse_append,List.reverse_singleton,List.singleton_append,List.dropWhile_cons]at hc
  have hgc:=hg s[i-1]
  generalize s[i-1]=c at*
  generalize hk:i-1=k at*
  cases hq:q c with
  |true=>
   rw [hq]at hc hgc
   rw [if_pos rfl]at hc
   simp [h0,h1,h5,q0,hz,hw,hat,q1,hlt,hgc]
   refine ih k _ _ (by omega) ⟨?_,?_,?_,by omega,hc,rfl⟩
   all_goals simp [h0,h1,hw]
  |false=>
   rw [hq]at hc hgc
   rw [if_neg (by decide)]at hc
   have hxi:x=i:=by rw [hc];simp;omega
   subst hxi
   simp [h0,h1,h5,q0,hz,hw,hat,q1,hlt,hgc]
 ·have q0:=eq_false (show¬(0:Int)<(i:Int) by omega)
  have hi0:i=0:=by omega
  subst hi0
  have hx0:x=0:=by rw [hc];rfl
  subst hx0
  simp [h0,h1,h5]
theorem trimE_take:Tg.Hd.trimE s=s.take (s.reverse.dropWhile Tg.Hd.white).length:=by
 have h2:Tg.Hd.trimE s<+:s:=List.reverse_suffix.mp (by unfold Tg.Hd.trimE;rw [List.reverse_reverse];exact List.dropWhile_suffix _)
 have:=List.prefix_iff_eq_take.mp h2
 rw [this]
 congr 1
 unfold Tg.Hd.trimE
 rw [List.length_reverse]
theorem Trim_cl (hs:s.length≤9223372036854775806):LC Tryz.prog EJ 197 [str s] H=some (str (Tg.Hd.trim s),H):=by
 refine LC_pure rfl Tryz.func197 rfl (by kernel_rfl) rfl ?_
 have he:=fun H:LH=>end_cl (H:=H) (s:=s) (g:=224) (q:=Tg.Hd.white) (fun b H=>white_cl) hs
 have hw:=fun(H:LH) (b:UInt8)=>white_cl (H:=H) (b:=b)
 obtain⟨x,hx⟩: ∃x,x=Tg.Hd.trim s:=⟨_,rfl⟩
 rw [←hx]
 unfold Tg.Hd.trim at hx
 rw [trimE_take]at hx
 have hle:(s.reverse.dropWhile Tg.Hd.white).length≤s.length:=by
  have:=(List.dropWhile_suffix (l:=s.reverse) Tg.Hd.white).length_le
  rwa [List.length_reverse]at this
 generalize (s.reverse.dropWhile Tg.Hd.white).length=n at*
 have q1:=eq_true (show(n:Int)≤(s.length:Int) by omega)
 have htl:(s.take n).length≤9223372036854775806:=by rw [List.length_take];omega
 simp [he,q1,hle]
 generalize s.take n=t at*
 refine loop_ind (fun(i:Nat) fr' H'=>fr' 0=str t∧fr' 3=.int .i64 i∧i≤t.length∧x=(t.drop i).dropWhile Tg.Hd.white∧H'=H) (fun i=>t.length-i) 0 ⟨by simp,by simp,Nat.zero_le _,hx,rfl⟩ ?_
 rintro i fr' H' ⟨h0,h3,hi,hc,rfl⟩ ih
 by_cases hlt:i<t.length
 ·have q:=eq_true (show(i:Int)<(t.length:Int) by omega)
  have hat:at_ t (i:Int)=t[i]:=at_in hlt
  have hw1:IntKind.i64.wrap ((i:Int)+1)=((i+1:Nat):Int):=by rw [wrapI (by omega) (by omega)];omega
  have qi:=eq_true (show(i:Int)≤(t.length:Int) by omega)
  rw [List.drop_eq_getElem_cons hlt,List.dropWhile_cons]at hc
  have hwc:=fun H=>hw H t[i]
  have hdr:t.drop i=t[i]::t.drop (i+1):=List.drop_eq_getElem_cons hlt
  generalize t[i]=c at*
  cases hq:Tg.Hd.white c with
  |true=>
   rw [hq]at hc hwc
   rw [if_pos rfl]at hc
   simp [h0,h3,q,hlt,hat,hwc]
   refine ih (i+1) _ _ (by omega) ⟨?_,?_,by omega,hc,rfl⟩
   all_goals simp [h0,hw1]
  |false=>
   rw [hq]at hc hwc
   rw [if_neg (by decide),←hdr]at hc
   simp [h0,h3,q,hlt,hat,hwc,qi,hi,hc]
 ·have q:=eq_false (show¬(i:Int)<(t.length:Int) by omega)
  have qi:=eq_true (show(i:Int)≤(t.length:Int) by omega)
  have hil:i=t.length:=by omega
  rw [List.drop_of_length_le (by omega)]at hc
  subst hil
  simp [h0,h3,hc]
theorem small_cl:LC Tryz.prog EJ 255 [.int .u8 b.toNat] H=some (.bool (decide ((97:Int)≤b.toNat)&&decide ((b.toNat:Int)≤122)),H):=by
 refine LC_pure rfl Tryz.func255 rfl (by kernel_rfl) rfl ?_
 by_cases h1:(97:Int)≤b.toNat<;>by_cases h2:(b.toNat:Int)≤122<;>simp [h1,h2]
theorem letter_cl:LC Tryz.prog EJ 221 [.int .u8 b.toNat] H=some (.bool (Tg.Hd.isL b),H):=by
 refine LC_pure rfl Tryz.func221 rfl (by kernel_rfl) rfl ?_
 have h1:=fun H:LH=>small_cl (H:=H) (b:=b)
 have h2:=fun H:LH=>great_cl (H:=H) (b:=b)
 unfold Tg.Hd.isL
 cases e1:(decide ((97:Int)≤b.toNat)&&decide ((b.toNat:Int)≤122))<;>rw [e1]at h1<;>
 cases e2:(decide ((65:Int)≤b.toNat)&&decide ((b.toNat:Int)≤90))<;>rw [e2]at h2<;>simp [h1,h2]
theorem Token_cl:LC Tryz.prog EJ 196 [.int .u8 b.toNat] H=some (.bool (Tg.Hd.tok b),H):=by
 refine LC_pure rfl Tryz.func196 rfl (by kernel_rfl) rfl ?_
 have h1:=fun H:LH=>letter_cl (H:=H) (b:=b)
 have h2: ∀H:LH,LC Tryz.prog EJ 120 [.int .u8 b.toNat] H=some (.bool (Tg.Hd.isD b),H):=fun H=>digit_cl (H:=H) (b:=b)
 have h3:=idx_lt Tg.Hd.signs b
 unfold Tg.Hd.tok
 cases e1:Tg.Hd.isL b with
 |true=>rw [e1]at h1;simp [h1]
 |false=>
  rw [e1]at h1
  cases e2:Tg.Hd.isD b with
  |true=>rw [e2]at h2;simp [h1,h2]
  |false=>
   rw [e2]at h2
   rw [h3]
   unfold Tg.Hd.signs
   simp [h1,h2]
   generalize Lib.indexByte _ b=x
   rw [Bool.eq_iff_iff]
   simp
abbrev hv (h:Tg.Hd.Hdr):Value:=.agg #[str h.1,str h.2]
abbrev hb (h:Tg.Hd.Hdr):LB:=⟨[str h.1,str h.2],73,true⟩
theorem fine_cl {h:Tg.Hd.Hdr} (h1:h.1.length≤1048576) (h2:h.2.length≤1048576):LC Tryz.prog EJ 167 [hv h] H=some (.bool (Tg.Hd.fine h),H):=by
 refine LC_pure rfl Tryz.func167 rfl (by kernel_rfl) rfl ?_
 have hle:H.le (H.new (hb h)):=le_refl.new
 obtain⟨x,hx⟩: ∃x,x=Tg.Hd.fine h:=⟨_,rfl⟩
 rw [←hx]
 unfold Tg.Hd.fine at hx
 have ha:=fun H:LH=>all_cl (H:=H) (s:=h.1) (g:=196) (q:=Tg.Hd.tok) (fun b H=>Token_cl) (by omega)
 have ht:=fun H:LH=>Trim_cl (H:=H) (s:=h.2) (by omega)
 have hc: ∀H:LH,LC Tryz.prog EJ 198 [str h.2,str [0,13,10]] H=some (.bool (!Tg.Hd.free [0,13,10] h.2),H):=fun H=>anyOf_cl (H:=H) (s:=h.2) (p:= [0,13,10]) (by omega) (by decide) (by intro b hb;simp at hb;rcases hb with rfl|rfl|rfl<;>decide)
 obtain⟨n,v⟩:=h
 simp only at*
 by_cases e1:n= []
 ·have:x=false:=by rw [hx];simp [e1]
  subst this
  simp [e1,hle]
 ·cases e2:n.all Tg.Hd.tok with
  |false=>
   have:x=false:=by rw [hx,e2];simp
   subst this
   rw [e2]at ha
   simp [e1,ha,hle]
  |true=>
   rw [e2]at ha hx
   by_cases e3:Tg.Hd.trim v=v
   ·cases e4:Tg.Hd.free [0,13,10] v with
    |false=>
     have:x=false:=by rw [hx,e4];simp
     subst this
     rw [e4]at hc
     simp [e1,ha,ht,e3,hc,hle]
    |true=>
     rw [e4]at hc hx
     by_cases e5:v.length≤8192
     ·have:x=true:=by rw [hx];simp [e1,e3,e5]
      subst this
      have q5:=eq_true (show(v.length:Int)≤8192 by omega)
      simp [e1,ha,ht,e3,hc,q5,hle]
     ·have:x=false:=by rw [hx];simp [e5]
      subst this
      have q5:=eq_false (show¬(v.length:Int)≤8192 by omega)
      simp [e1,ha,ht,e3,hc,q5,hle]
   ·have:x=false:=by rw [hx];simp [e3]
    subst this
    simp [e1,ha,ht,e3,hle]
end
def HRow (H:LH) (v:Value) (l:List Tg.Hd.Hdr):Prop:=
 (v=.slice none 0 0∧l= [])∨ ∃(k o c:Nat),v=.slice (some ⟨k,o,none⟩) l.length c∧(l≠ []→ ∃b:LB,H.get k=some b∧k<H.n∧ ∀(i:Nat) (h:i<l.length),o+i*2+2≤b.cells.length∧(b.cells.drop (o+i*2)).take 2= [str l[i].1,str l[i].2]∧b.cells[o+i*2]?=some (str l[i].1)∧b.cells[o+i*2+1]?=some (str l[i].2))
abbrev HOwn (N:Nat) (H:LH) (v:Value) (l:List Tg.Hd.Hdr):Prop:=RowN N H 73 2 v l.length (Tg.Hd.cells l)
def oddAt:List Tg.Hd.Hdr→Nat→Int
 | [],_=> -1
 |h::l,i=>if Tg.Hd.fine h=true then oddAt l (i+1)else i
theorem odd_iff: ∀(l:List Tg.Hd.Hdr) (i:Nat),0≤oddAt l i↔l.all Tg.Hd.fine=false
 | [],i=>by simp [oddAt]
 |h::l,i=>by
  unfold oddAt
  rw [List.all_cons]
  cases hf:Tg.Hd.fine h with
  |true=>rw [if_pos rfl,odd_iff l (i+1)];simp
  |false=>rw [if_neg (by decide)];simp
section
variable {H H':LH} {v:Value} {l:List Tg.Hd.Hdr} {N:Nat}
theorem HRow.keep (h:HRow H v l) (hn:H.n≤H'.n) (hk: ∀k,k<H.n→H'.get k=H.get k):HRow H' v l:=by
 rcases h with h|⟨k,o,c,h1,h2⟩
 ·exact .inl h
 ·refine .inr ⟨k,o,c,h1,fun hne=>?_⟩
  obtain⟨b,h2,h3,h4⟩:=h2 hne
  exact⟨b,by rw [hk k h3];exact h2,by omega,h4⟩
theorem HRow.len (h:HRow H v l):lbuiltin Tryz.prog .len [51] [v] H'=some (.int .i64 l.length,H'):=by
 rcases h with⟨rfl,rfl⟩|⟨k,o,c,rfl,h2⟩
 ·simp
 ·simp
theorem HRow.at (h:HRow H v l) {i:Nat} (hi:i<l.length): ∃k o,(∀H':LH,lixa Tryz.prog 51 v (.int .i64 i) H'=some (ptr k o,H'))∧k<H.n∧ ∀H':LH,H'.get k=H.get k→
  lld Tryz.prog 73 (ptr k o) H'=some (hv l[i])∧lld Tryz.prog 9 (ptr k o) H'=some (str l[i].1)∧lld Tryz.prog 9 (ptr k (o+1)) H'=some (str l[i].2):=by
 rcases h with⟨rfl,rfl⟩|⟨k,o,c,rfl,h2⟩
 ·simp at hi
 ·obtain⟨b,h2,h3,h4⟩:=h2 (fun e=>by rw [e]at hi;simp at hi)
  obtain⟨g1,g2,g3,g4⟩:=h4 i hi
  refine⟨k,o+i*2,fun H'=>?_,h3,fun H' e=>?_⟩
  ·have q:=eq_true (show(i:Int)<(l.length:Int) by omega)
   simp [q]
  ·rw [h2]at e
   have hlt:o+i*2<b.cells.length:=by omega
   have hlt2:o+i*2+1<b.cells.length:=by omega
   rw [List.getElem?_eq_getElem hlt]at g3
   rw [List.getElem?_eq_getElem hlt2]at g4
   injection g3 with g3
   injection g4 with g4
   simp [e,g1,g2,g3,g4,hlt,hlt2]
theorem HOwn.row (h:HOwn N H v l):HRow H v l:=by
 rcases h.2 with⟨rfl,h0⟩|⟨k,c,rest,rfl,h1,h2,h3,h4,h5⟩
 ·exact .inl ⟨rfl,List.eq_nil_of_length_eq_zero h0⟩
 ·refine .inr ⟨k,0,c,rfl,fun _=>⟨_,h3,h2,fun i hi=>?_⟩⟩
  have g:=Tg.Hd.cells_at hi rest
  have hl:=Tg.Hd.cells_len l
  simp only [Nat.zero_add]
  refine⟨?_,g⟩
  rw [List.length_append,hl];omega
theorem HOwn.nil:HOwn N H (.slice none 0 0) []:=RowN.nil
theorem h_app (h:HOwn N H v l) (hN:N≤H.n) (hl:l.length≤100000) (a b:List UInt8):
  ∃v' H2,lapp Tryz.prog 51 v (some (1,[str a,str b])) (H.new ⟨[str a,str b],73,true⟩)=some (v',H2)∧HOwn N H2 v' (l++ [(a,b)])∧H.n<H2.n∧(∀k,k<H.n→offRow v k→H2.get k=H.get k)∧(Full v→Full v')∧(∀k,k<H.n→offRow v k→offRow v' k):=by
 have h2:HOwn N (H.new ⟨[str a,str b],73,true⟩) v l:=h.keep (Nat.le_succ _) (fun k _ _ hk=>get_new_ne (by omega))
 obtain⟨v',H2,ha,hr,hk,hf⟩:=RowN.app (P:=Tryz.prog) (t:=51) (new:= [str a,str b]) (m:=1) h2 Tryz.underlying51 (by kernel_rfl) (by simp) (by simp) (by unfold maxElems;omega) (by rw [n_new];omega) (.inl (Nat.le_refl 1))
 refine⟨v',H2,ha,?_,?_,fun k hkn ho=>?_,hf,fun k hkn ho=>?_⟩
 ·have e:Tg.Hd.cells (l++ [(a,b)])=Tg.Hd.cells l++ [str a,str b]:=by rw [Tg.Hd.cells_app];rfl
  rw [HOwn,List.length_append,e];exact hr
 ·have:=hk.le;rw [n_new]at this;omega
 ·rw [hk.get k (by rw [n_new];omega) ho,get_new_ne (by omega)]
 ·exact hk.off k (by rw [n_new];omega) ho
theorem odd_cl {h:Tg.Hd.Hdr} (h1:h.1.length≤1048576) (h2:h.2.length≤1048576):LC Tryz.prog EJ 166 [hv h] H=some (.bool (!Tg.Hd.fine h),H):=by
 refine LC_pure rfl Tryz.func166 rfl (by kernel_rfl) rfl ?_
 have hf:=fun H:LH=>fine_cl (H:=H) h1 h2
 simp [hf,le_refl.new]
theorem index_cl (hr:HRow H v l) (hl:l.length≤1000000) (hs: ∀h∈l,h.1.length≤1048576∧h.2.length≤1048576):LC Tryz.prog EJ 199 [v,.func (.func 166) #[] #[]] H=some (.int .i64 (oddAt l 0),H):=by
 refine LC_pure rfl Tryz.func199 rfl (by kernel_rfl) rfl ?_
 obtain⟨x,hx⟩: ∃x,x=oddAt l 0:=⟨_,rfl⟩
 rw [←hx]
 simp [hr.len]
 refine loop_ind (fun(i:Nat) fr' H'=>fr' 0=v∧fr' 1=.func (.func 166) #[] #[]∧fr' 7=.int .i64 l.length∧fr' 8=.int .i64 i∧i≤l.length∧x=oddAt (l.drop i) i∧H'=H) (fun i=>l.length-i) 0 ⟨by simp,by simp,by simp,by simp,Nat.zero_le _,hx,rfl⟩ ?_
 rintro i fr' H' ⟨h0,h1,h7,h8,hi,hc,rfl⟩ ih
 by_cases hlt:i<l.length
 ·have q:=eq_true (show(i:Int)<(l.length:Int) by omega)
  have hw:IntKind.i64.wrap ((i:Int)+1)=((i+1:Nat):Int):=by rw [wrapI (by omega) (by omega)];omega
  obtain⟨k,o,g1,g2,g3⟩:=hr.at hlt
  obtain⟨g4,_,_⟩:=g3 H' rfl
  have hm:=hs l[i] (List.getElem_mem hlt)
  have ho:=fun H:LH=>odd_cl (H:=H) (h:=l[i]) hm.1 hm.2
  rw [List.drop_eq_getElem_cons hlt]at hc
  generalize l[i]=a at*
  unfold oddAt at hc
  cases hf:Tg.Hd.fine a with
  |true=>
   rw [hf,if_pos rfl]at hc
   rw [hf]at ho
   simp [h0,h1,h7,h8,q,hlt,g1,g4,ho]
   refine ih (i+1) _ _ (by omega) ⟨?_,?_,?_,?_,by omega,hc,rfl⟩
   all_goals simp [h0,h1,h7,hw]
  |false=>
   rw [hf,if_neg (by decide)]at hc
   rw [hf]at ho
   subst hc
   simp [h0,h1,h7,h8,q,hlt,g1,g4,ho]
 ·have q:=eq_false (show¬(i:Int)<(l.length:Int) by omega)
  rw [List.drop_of_length_le (by omega)]at hc
  have hc:x= -1:=hc
  subst hc
  simp [h0,h1,h7,h8,q,hlt]
theorem good_hl (hr:HRow H v l) (hl:l.length≤1000000) (hs: ∀h∈l,h.1.length≤1048576∧h.2.length≤1048576):LC Tryz.prog EJ 145 [v] H=some (.bool (Tg.Hd.good l),H):=by
 have hi: ∀H',H'=H→LC Tryz.prog EJ 199 [v,.func (.func 166) #[] #[]] H'=some (.int .i64 (oddAt l 0),H'):=fun H' e=>by subst e;exact index_cl hr hl hs
 have hc:LC Tryz.prog EJ 168 [v,.func (.func 166) #[] #[]] H=some (.bool (decide (0≤oddAt l 0)),H):=by
  refine LC_pure rfl Tryz.func168 rfl (by kernel_rfl) rfl ?_
  simp [hi]
 have hodd:=odd_iff l 0
 refine LC_pure rfl Tryz.func145 rfl (by kernel_rfl) rfl ?_
 unfold Tg.Hd.good
 by_cases h1:l.length≤100
 ·have q:=eq_true (show(l.length:Int)≤100 by omega)
  cases hall:l.all Tg.Hd.fine with
  |true=>
   rw [hall]at hodd
   rw [decide_eq_false (by rw [hodd];decide)]at hc
   simp [hr.len,q,h1,hc]
  |false=>
   rw [hall]at hodd
   rw [decide_eq_true (by rw [hodd])]at hc
   simp [hr.len,q,h1,hc]
 ·have q:=eq_false (show¬(l.length:Int)≤100 by omega)
  simp [hr.len,q,h1]
end
end Go.Proofs.YteeiipildjgdbaaGreatDoor
namespace Tg.Hd
end Tg.Hd
namespace Go.Proofs.YteeiipildjgdbaaGreatDoor
open Go.Lg Go.Tg
section
variable {H:LH} {b:UInt8} {s p:List UInt8}
end
end Go.Proofs.YteeiipildjgdbaaGreatDoor
namespace Tg.Hd
end Tg.Hd
namespace Go.Proofs.YteeiipildjgdbaaGreatDoor
open Go.Lg Go.Tg
section
variable {H:LH} {v w:Value} {l m:List Tg.Hd.Hdr} {N:Nat}
theorem hbin_neq {P:Program} {t:TypeId} {xs ys:List Value} {b:Bool} (hx:flatB (.agg ⟨xs⟩)=true) (hy:flatB (.agg ⟨ys⟩)=true) (hg:P.eqGuardType P.depth t=false)
  (he:pureVal P (Op.equalIn Op.maxDepth t (.agg ⟨xs⟩) (.agg ⟨ys⟩))=some b):lbin P .neq t (.agg ⟨xs⟩) (.agg ⟨ys⟩)=some (.bool (!b)):=by
 unfold lbin
 simp only
 rw [if_pos (by rw [hx,hy];rfl)]
 unfold pureFlat eqGuard
 simp only [binOp,Op.equal,pureVal_bind]
 have e1: ∀X Y:Value,pureVal P (if(!true)=true then(pure ():Sem Unit)else do
   let __do_lift←program
   let __do_lift_1←program
   if(!__do_lift.eqGuardType __do_lift_1.depth t)=true then pure ()
   else do
    let __do_lift←Op.eqGuardIn Op.maxDepth t X Y
    if __do_lift=true then unsupported (Unsupported.noEntry "binop/eql: two nil values of an interface type with methods, in a part of a struct or an array")else pure ())=some ():=by
  intro X Y
  rw [if_neg (by decide)]
  simp only [pureVal_bind,pureVal_program,Option.bind_some,hg,Bool.not_false,if_true,pureVal_pure]
 rw [e1,he]
 rfl
theorem hdr_in {a b:Tg.Hd.Hdr} :pureVal Tryz.prog (Op.equalIn Op.maxDepth 73 (hv a) (hv b))=some (decide (a=b)):=by
 show pureVal Tryz.prog (Op.equalIn ((9998+1)+1) _ _ _)=_
 have hs:Tryz.prog.stoodInHeld 73=false:=by kernel_rfl
 obtain⟨a1,a2⟩:=a
 obtain⟨b1,b2⟩:=b
 unfold Op.equalIn
 simp only [pureVal_bind,pureVal_und,Tryz.underlying73,Option.bind_some,pureVal_program,hs,Bool.false_eq_true,if_false,pureVal_pure]
 by_cases h1:a1=b1<;>by_cases h2:a2=b2<;>
  simp [←Array.forIn_toList,pureVal_bind,part_cell,eqIn_int,eqIn_str,eqIn_bool,h1,h2,Tryz.underlying3,Tryz.underlying9,Tryz.underlying4]
theorem hdr_ne {a b:Tg.Hd.Hdr} :lbin Tryz.prog .neq 73 (hv a) (hv b)=some (.bool (!decide (a=b))):=hbin_neq rfl rfl (by kernel_rfl) hdr_in
theorem hsame_cl (hr:HRow H v l) (hw:HRow H w m) (hl:l.length≤1000000):LC Tryz.prog EJ 31 [v,w] H=some (.bool (decide (l=m)),H):=by
 refine LC_pure rfl Tryz.func31 rfl (by kernel_rfl) rfl ?_
 by_cases hlm:l.length=m.length
 ·obtain⟨x,hx⟩: ∃x,x=decide (l.drop 0=m.drop 0):=⟨_,rfl⟩
  have e:decide (l=m)=x:=hx.symm
  rw [e]
  have q0:=eq_true (show(l.length:Int)=(m.length:Int) by omega)
  simp [hr.len,hw.len,q0,hlm]
  refine loop_ind (fun(i:Nat) fr' H'=>fr' 0=v∧fr' 1=w∧fr' 5=.int .i64 i∧i≤l.length∧x=decide (l.drop i=m.drop i)∧H'=H) (fun i=>l.length-i) 0 ⟨by simp,by simp,by simp,Nat.zero_le _,hx,rfl⟩ ?_
  rintro i fr' H' ⟨h0,h1,h5,hi,hc,rfl⟩ ih
  by_cases hlt:i<l.length
  ·have q:=eq_true (show(i:Int)<(m.length:Int) by omega)
   have q':=eq_true (show(i:Int)<(l.length:Int) by omega)
   have hlt2:i<m.length:=by omega
   have hw1:IntKind.i64.wrap ((i:Int)+1)=((i+1:Nat):Int):=by rw [wrapI (by omega) (by omega)];omega
   obtain⟨k,o,g1,g2,g3⟩:=hr.at hlt
   obtain⟨k',o',g1',g2',g3'⟩:=hw.at hlt2
   obtain⟨g4,_,_⟩:=g3 H' rfl
   obtain⟨g4',_,_⟩:=g3' H' rfl
   have hne:=fun a b=>hdr_ne (a:=a) (b:=b)
   rw [List.drop_eq_getElem_cons hlt,List.drop_eq_getElem_cons hlt2]at hc
   generalize l[i]=a at*
   generalize m[i]=b at*
   by_cases hab:a=b
   ·subst hab
    have hc:x=decide (l.drop (i+1)=m.drop (i+1)):=by rw [hc];simp
    simp [h0,h1,h5,q,q',hlt,hlt2,g1,g4,g1',g4',hne,hr.len]
    refine ih (i+1) _ _ (by omega) ⟨?_,?_,?_,by omega,hc,rfl⟩
    all_goals simp [h0,h1,hw1]
   ·have hc:x=false:=by rw [hc];simp [hab]
    subst hc
    simp [h0,h1,h5,q,q',hlt,hlt2,g1,g4,g1',g4',hne,hab,hr.len]
  ·have q:=eq_false (show¬(i:Int)<(m.length:Int) by omega)
   have q':=eq_false (show¬(i:Int)<(l.length:Int) by omega)
   rw [List.drop_of_length_le (by omega),List.drop_of_length_le (by omega)]at hc
   have hc:x=true:=hc
   subst hc
   simp [h0,h1,h5,q,q',hlt,hr.len]
 ·have e:decide (l=m)=false:=decide_eq_false (fun e=>hlm (by rw [e]))
  have q0:=eq_false (show¬(l.length:Int)=(m.length:Int) by omega)
  rw [e]
  simp [hr.len,hw.len,q0,hlm]
end
section
variable {H:LH} {v w:Value} {l m:List Tg.Hd.Hdr} {N:Nat} {s:List UInt8}
theorem hcut_cl {k:Int} (h0:0≤k):LC Tryz.prog EJ 5 [str s,.int .i64 k] H=some (str (s.take k.toNat),H):=by
 refine LC_pure rfl Tryz.func5 rfl (by kernel_rfl) (by simp) ?_
 by_cases hc:k<s.length
 ·have f:=eq_true hc
  have f2:=eq_true (show k≤s.length by omega)
  have f3:=eq_true h0
  simp [f,f2,f3]
 ·have f:=eq_false hc
  have e:s.take k.toNat=s:=List.take_of_length_le (by omega)
  simp [f,e]
theorem bs0h:lbuildSlice Tryz.prog 51 0 [] H=some (sl H.n 0 0,H.new ⟨[],73,true⟩):=by
 unfold lbuildSlice
 simp [Instr.fill,Value.cells]
 rfl
theorem bs1h {a b:List UInt8} :lbuildSlice Tryz.prog 51 1 [(0,.agg #[str a,str b])] H=some (sl H.n 1 1,H.new ⟨[str a,str b],73,true⟩):=by
 unfold lbuildSlice
 simp [Instr.fill,Value.cells,Array.range]
 rfl
structure OutRow (H:LH) (v:Value) (H':LH) (l:List Tg.Hd.Hdr):Prop where
 row:HOwn H.n H' v l
 full:Full v
 le:H.n≤H'.n
 old: ∀k,k<H.n→H'.get k=H.get k
theorem OutRow.trunc {H':LH} (h:OutRow H v H' l): ∃H2,Lg.trunc H (v,H')=(v,H2)∧OutRow H v H2 l:=by
 rcases trunc_or v H H' with e|⟨e,hf,_⟩
 ·exact⟨H',e,h⟩
 ·refine⟨H,e,⟨?_,h.full,Nat.le_refl _,fun _ _=>rfl⟩⟩
  refine⟨h.row.1,?_⟩
  rcases h.row.2 with h2|⟨k,c,rest,rfl,_⟩
  ·exact .inl h2
  ·simp [flatB,flat1B,atomB]at hf
theorem few_hl (hr:HRow H v l) (hl:l.length≤9223372036854775807) {c:Nat} (hc:c≤1000): ∃v' H',LC Tryz.prog EJ 30 [v,.int .i64 c] H=some (v',H')∧OutRow H v' H' (Tg.Hd.few l c):=by
 have key: ∃r,LC Tryz.prog EJ 30 [v,.int .i64 c] H=some (Lg.trunc H r)∧OutRow H r.1 r.2 (Tg.Hd.few l c):=by
  refine LC_runs (P:=Tryz.prog) (E:=EJ) (f:=30) rfl Tryz.func30 rfl (by kernel_rfl) ?_
  simp [bs0h]
  refine loop_ind (fun(i:Nat) fr' H'=>fr' 0=v∧fr' 1=.int .i64 c∧fr' 6=.int .i64 i∧i≤l.length∧i≤c∧ ∃w,fr' 5=w∧OutRow H w H' ((l.take i).map fun h=>(h.1.take 30,h.2.take 100))) (fun i=>l.length-i) 0 ⟨by simp,by simp,by simp,Nat.zero_le _,Nat.zero_le _,sl H.n 0 0,by simp,⟨?_,full_new,by simp,fun k hk=>get_new_ne (by omega)⟩⟩ ?_
  ·exact⟨by simp [Tg.Hd.cells],.inr ⟨H.n,0,[],by simp,Nat.le_refl _,by simp,by simp [Tg.Hd.cells],by simp,by simp [Tg.Hd.cells]⟩⟩
  rintro i fr' H' ⟨h0,h1,h6,hi,hic,w,h5,hrow,hfull,hn,hk⟩ ih
  have hr':=hr.keep hn hk
  by_cases hlt:i<l.length
  ·have q:=eq_true (show(i:Int)<(l.length:Int) by omega)
   by_cases hlc:i<c
   ·have qc:=eq_true (show(i:Int)<(c:Int) by omega)
    have hw1:IntKind.i64.wrap ((i:Int)+1)=((i+1:Nat):Int):=by rw [wrapI (by omega) (by omega)];omega
    obtain⟨k,o,g1,g2,g3⟩:=hr'.at hlt
    obtain⟨_,g4,g5⟩:=g3 H' rfl
    have hc1:=fun H:LH=>hcut_cl (H:=H) (s:=l[i].1) (k:=30) (by decide)
    have hc2:=fun H:LH=>hcut_cl (H:=H) (s:=l[i].2) (k:=100) (by decide)
    simp only [show((30:Int).toNat)=30 from rfl,show((100:Int).toNat)=100 from rfl]at hc1 hc2
    have hnew:(l.take (i+1)).map (fun h:Tg.Hd.Hdr=>((h.1.take 30,h.2.take 100):Tg.Hd.Hdr))=(l.take i).map (fun h:Tg.Hd.Hdr=>((h.1.take 30,h.2.take 100):Tg.Hd.Hdr))++ [(l[i].1.take 30,l[i].2.take 100)]:=by
     rw [List.take_succ_eq_append_getElem hlt,List.map_append];rfl
    obtain⟨v',H2,a1,a2,a3,a4,a5,a6⟩:=h_app hrow hn (by rw [List.length_map,List.length_take];omega) (l[i].1.take 30) (l[i].2.take 100)
    rw [←hnew]at a2
    have hfin:=fun fr2 (f0:fr2 0=v) (f1:fr2 1=.int .i64 c) (f6:fr2 6=.int .i64 ((i+1:Nat):Int)) (f5:fr2 5=v')=>ih (i+1) fr2 H2 (by omega) ⟨f0,f1,f6,by omega,by omega,v',f5,⟨a2,a5 hfull,by omega,fun k hk2=>by rw [a4 k (by omega) (hrow.off_lt hk2),hk k hk2]⟩⟩
    clear ih
    generalize l[i].1.take 30=x1 at*
    generalize l[i].2.take 100=x2 at*
    generalize l[i]=a at*
    simp [h0,h1,h5,h6,q,qc,hlt,hlc,g1,g4,g5,hc1,hc2,bs1h,a1,hr.len]
    refine hfin _ ?_ ?_ ?_ ?_
    all_goals simp [h0,h1,hw1]
   ·have qc:=eq_false (show¬(i:Int)<(c:Int) by omega)
    have hic:i=c:=by omega
    subst hic
    simp [h0,h1,h5,h6,q,hlt,hr.len]
    exact⟨hrow,hfull,hn,hk⟩
  ·have q:=eq_false (show¬(i:Int)<(l.length:Int) by omega)
   have e:l.take i=l.take c:=by rw [List.take_of_length_le (by omega),List.take_of_length_le (by omega)]
   rw [e]at hrow
   simp [h0,h1,h5,h6,q,hr.len]
   exact⟨hrow,hfull,hn,hk⟩
 obtain⟨r,e,ho⟩:=key
 obtain⟨H2,e2,ho2⟩:=ho.trunc
 exact⟨r.1,H2,by rw [e,←e2],ho2⟩
end
end Go.Proofs.YteeiipildjgdbaaGreatDoor
namespace Go.Lg
open Go.Tg Go.RowKit
def lift1 (n:Nat):Value→Value
 |.pointer (some ⟨l,o,none⟩)=>if l<n then .pointer (some ⟨l,o,none⟩)else unk
 |.slice (some ⟨l,o,none⟩) k c=>if l<n∧k≤c then .slice (some ⟨l,o,none⟩) k c else if k=0∧c=0∧0<n then .slice (some ⟨0,0,none⟩) 0 0 else unk
 |.slice (some ⟨_,_,some _⟩) k c=>if k=0∧c=0∧0<n then .slice (some ⟨0,0,none⟩) 0 0 else unk
 |v=>if atomB v then v else unk
def liftV (n:Nat):Value→Value
 |.agg cs=>.agg (cs.map (lift1 n))
 |v=>lift1 n v
def liftB (n:Nat):Option Obj→Option LB
 |some (.cells arr t _)=>some ⟨arr.toList.map (lift1 n),t,false⟩
 |_=>none
def LH.lift (w:World) (g:Nat):LH:=⟨w.heap.size,fun l=>liftB w.heap.size w.heap[l]?,fun _=>False,w,g⟩
def renI:Ren:=fun l=>⟨l,0,0⟩
theorem atom_flat {v:Value} (h:atomB v=true):flatB v=true:=by
 cases v<;>first|exact h|(simp [atomB]at h)
section
variable {P:Program} {E:Ext} {H H':LH} {w w':World} {v v':Value} {g:Nat}
theorem lift_D {l:Nat} :(LH.lift w g).D l↔l<w.heap.size:=⟨fun h=>h.1,fun h=>⟨h,fun h=>h⟩⟩
theorem lift1_vr (v:Value):VR (LH.lift w g).D renI (lift1 w.heap.size v) v:=by
 unfold lift1
 split
 ·rename_i l o
  split
  ·have:=VR.ptr (n:=(LH.lift w g).D) (ι:=renI) l o (lift_D.2 ‹_›) rfl
   simpa [renI]using this
  ·exact .any _
 ·rename_i l o k c
  split
  ·rename_i h
   have:=VR.slice (n:=(LH.lift w g).D) (ι:=renI) l o k c (lift_D.2 h.1) rfl h.2
   simpa [renI]using this
  ·split
   ·rename_i h;obtain⟨rfl,rfl,h⟩:=h;exact .slice0 0 0 _ (lift_D.2 h) rfl
   ·exact .any _
 ·split
  ·rename_i h;obtain⟨rfl,rfl,h⟩:=h;exact .slice0 0 0 _ (lift_D.2 h) rfl
  ·exact .any _
 ·split
  ·exact .flat _ (atom_flat ‹_›)
  ·exact .any _
theorem liftV_vr (v:Value):VR (LH.lift w g).D renI (liftV w.heap.size v) v:=by
 unfold liftV
 split
 ·refine .agg _ _ (by simp) (fun i x y hx hy=>?_)
  rw [Array.getElem?_map,hy]at hx
  simp only [Option.map_some,Option.some.injEq]at hx
  subst hx
  exact lift1_vr y
 ·exact lift1_vr _
theorem rel_lift (hg:g≤w.heap.size):Rel P (LH.lift w g) renI w:=by
 have hno: ∀k,¬RW (LH.lift w g) renI k:=by
  rintro k ⟨l,b,hb,hr,_⟩
  have hb':liftB w.heap.size w.heap[l]?=some b:=hb
  unfold liftB at hb'
  split at hb'
  ·simp only [Option.some.injEq]at hb';subst hb';cases hr
  ·cases hb'
 refine⟨fun l hl=>?_,fun _ h=>h.elim,fun l b hb=>?_,fun l l' b b' hb _ hr=>?_,fun k hk=>⟨rfl,Nat.lt_of_lt_of_le hk hg,hno k⟩⟩
 ·show liftB _ _=none
  rw [Array.getElem?_eq_none hl];rfl
 ·have hb':liftB w.heap.size w.heap[l]?=some b:=hb
  unfold liftB at hb'
  split at hb'
  ·rename_i arr t fr hw
   simp only [Option.some.injEq]at hb'
   subst hb'
   refine .inl ⟨rfl,arr,t,fr,hw,by simp [renI],fun i x hx=>?_,fun h=>by cases h⟩
   simp only [List.getElem?_map,Option.map_eq_some_iff]at hx
   obtain⟨y,hy,rfl⟩:=hx
   exact⟨y,by simpa [renI]using hy,lift1_vr y⟩
  ·cases hb'
 ·exact absurd ⟨l,b,hb,hr,rfl⟩ (hno (renI l).blk)
theorem law_lift {f:FuncId} {args:Array Value} {ng:Nat} (hT:TOk P (LC P E)) (hng:ng≤w.heap.size) (h:LC P E f (args.toList.map (liftV w.heap.size)) (LH.lift w ng)=some (.bool true,H')) (he:Entered P f:=by exact⟨_,rfl,rfl,by decide⟩):
  Calls P f args w fun e w'=>e=.returned (.bool true)∧Change (fun _=>False) w w':=by
 have hc:=(hT _ _ _ _ _ h).call he
 refine(hc renI w args (rel_lift hng) (by simp) (fun i x y hx hy=>?_)).mono ?_
 ·rw [List.getElem?_map,Array.getElem?_toList]at hx
  rw [hy]at hx
  simp only [Option.map_some,Option.some.injEq]at hx
  subst hx
  exact liftV_vr y
 ·rintro e w' ⟨ι',v',rfl,ho,hv⟩
  rw [flat_eq hv rfl]
  refine⟨rfl,ho.chg.mono ?_⟩
  rintro k-⟨l,b,hb,hr,_⟩
  have hb':liftB w.heap.size w.heap[l]?=some b:=hb
  unfold liftB at hb'
  split at hb'
  ·simp only [Option.some.injEq]at hb';subst hb';cases hr
  ·cases hb'
@[simp] theorem lift_str {n:Nat} {s:ByteArray} :lift1 n (.string s)=.string s:=rfl
@[simp] theorem lift_int {n:Nat} {k:IntKind} {i:Int} :lift1 n (.int k i)=.int k i:=rfl
@[simp] theorem lift_bool {n:Nat} {b:Bool} :lift1 n (.bool b)=.bool b:=rfl
def RowOf {α:Type} (H:LH) (s:Nat) (El:α→List Value→Prop) (v:Value) (xs:List α):Prop:=
 (v=.slice none 0 0∧xs= [])∨ ∃l o c,v=.slice (some ⟨l,o,none⟩) xs.length c∧xs.length≤c∧l<H.n∧(xs≠ []→ ∃b,H.get l=some b∧o+xs.length*s≤b.cells.length∧ ∀i x,xs[i]?=some x→El x ((b.cells.drop (o+i*s)).take s))
variable {HH:Type} {enc:TypeId×Value→HH}
theorem cells_lift {a:Addr} {k:Nat} {cs:List Value} {b0:Nat} (hk:0<k) (h:w.cells? b0 a k=some cs): ∃l o arr t f,a=⟨l,o,none⟩∧w.heap[l]?=some (.cells arr t f)∧cs=(arr.toList.drop o).take k∧o+k≤arr.size:=by
 unfold World.cells? at h
 split at h
 ·have hlen:cs.length=k:=by simpa using Lib.mapM_length h
  have hi: ∀i,i<k→cs[i]?=w.cell? (a.add i):=fun i hi=>mapM_get h i i (by simp [hi])
  have e0:=hi 0 hk
  have hsome: ∀i,i<k→ ∃x,cs[i]?=some x:=fun i hi=>⟨_,List.getElem?_eq_getElem (by omega)⟩
  obtain⟨x0,hx0⟩:=hsome 0 hk
  obtain⟨l,o,sp⟩:=a
  rw [hx0]at e0
  simp only [Addr.add,if_pos,World.cell?]at e0
  split at e0
  ·rename_i arr t f hw
   split at e0
   ·cases e0
   ·rename_i hsp
    have hsp':sp=none:=by cases sp with|none=>rfl|some x=>simp at hsp
    subst hsp'
    have hc: ∀i,i<k→cs[i]?=arr[o+i]?:=fun i h2=>by
     rw [hi i h2]
     unfold Addr.add
     split
     ·rename_i h0;subst h0;simp [World.cell?,hw]
     ·simp [World.cell?,hw]
    have hsz:o+k≤arr.size:=by
     obtain⟨x,hx⟩:=hsome (k-1) (by omega)
     rw [hc (k-1) (by omega)]at hx
     have:=(Array.getElem?_eq_some_iff.1 hx).1
     omega
    refine⟨l,o,arr,t,f,rfl,hw,?_,hsz⟩
    apply List.ext_getElem?
    intro i
    rw [List.getElem?_take]
    split
    ·rename_i h2;rw [hc i h2,List.getElem?_drop];simp
    ·rw [List.getElem?_eq_none (by omega)]
  ·cases e0
 ·cases h
theorem lift_block {l:Nat} {arr:Array Value} {t:TypeId} {f:Nat×Nat} (h:w.heap[l]?=some (.cells arr t f)):(LH.lift w g).get l=some ⟨arr.toList.map (lift1 w.heap.size),t,false⟩:=by
 show liftB _ _=_
 rw [h];rfl
theorem row_of_trod {α:Type} {El:α→List Value→Prop} {t e:TypeId} {base fuel s:Nat} {held:Bool} {cs:List Value} {x:DataW HH×List MemPlace} (ht:P.underlying t=some (.slice e)) (hs:P.cellsOf e=s) (h0:0<s) (hw0:0<w.heap.size)
  (hel: ∀fuel cs y,DataW.trod enc P w base (fun _=>true) held fuel e cs=some y→ ∃a,El a (cs.map (lift1 w.heap.size)))
  (h:DataW.trod enc P w base (fun _=>true) held fuel t cs=some x): ∃v xs,cs= [v]∧RowOf (LH.lift w g) s El (lift1 w.heap.size v) xs∧xs.length≤maxLen:=by
 rcases DataW.trod_slice ht h with⟨rfl,rfl⟩|⟨a,len,cap,elems,rest,n,_,rfl,rfl,_,hl,hm,hlen,hat,hrest,_⟩
 ·exact⟨_,[],rfl,.inl ⟨rfl,rfl⟩,Nat.zero_le _⟩
 ·rw [hs]at hat hrest
  obtain⟨hr1,hr2⟩:=hrest rfl
  have hcell: ∀i,i<len→ ∃cs' y,w.cells? base (a.add (i*s)) s=some cs'∧DataW.trod enc P w base (fun _=>true) held n e cs'=some y:=fun i hi=>by
   have:=hat i hi
   rw [List.getElem?_eq_getElem (by omega)]at this
   obtain⟨cs',h1,h2⟩:=Option.bind_eq_some_iff.1 this
   exact⟨cs',_,h1,h2⟩
  have hmem: ∀i,i<cap→ ∃cs',w.cells? base (a.add (i*s)) s=some cs':=fun i hi=>by
   rcases Nat.lt_or_ge i len with h1|h1
   ·obtain⟨cs',_,h,_⟩:=hcell i h1;exact⟨cs',h⟩
   ·have:=hr2 (i-len) (by omega)
    rw [List.getElem?_eq_getElem (by omega),show len+(i-len)=i by omega]at this
    obtain⟨cs',h1,h2⟩:=Option.bind_eq_some_iff.1 this
    exact⟨cs',h1⟩
  have hex: ∀i:Fin len,∃x:α,∀cs',w.cells? base (a.add (i.1*s)) s=some cs'→El x (cs'.map (lift1 w.heap.size)):=fun i=>by
   obtain⟨cs',y,h1,h2⟩:=hcell i.1 i.2
   obtain⟨x,hx⟩:=hel n cs' y h2
   exact⟨x,fun cs2 h3=>by rw [h1]at h3;injection h3 with h3;subst h3;exact hx⟩
  refine⟨_,List.ofFn (fun i=>Classical.choose (hex i)),rfl,?_,by simp;omega⟩
  rcases Nat.eq_zero_or_pos cap with hc|hc
  ·subst hc
   obtain rfl:len=0:=by omega
   refine .inr ?_
   have: ∃l o,lift1 w.heap.size (.slice (some a) 0 0)=.slice (some ⟨l,o,none⟩) 0 0∧l<w.heap.size:=by
    obtain⟨l,o,sp⟩:=a
    cases sp with
    |none=>
     simp only [lift1]
     split
     ·exact⟨l,o,rfl,And.left ‹_›⟩
     ·rw [if_pos (by simp [hw0])];exact⟨0,0,rfl,hw0⟩
    |some q=>simp only [lift1];rw [if_pos (by simp [hw0])];exact⟨0,0,rfl,hw0⟩
   obtain⟨l,o,e1,h1⟩:=this
   exact⟨l,o,0,by simpa using e1,by simp,h1,fun hne=>by simp at hne⟩
  ·obtain⟨cs0,h00⟩:=hmem 0 hc
   rw [Nat.zero_mul,show a.add 0=a from rfl]at h00
   obtain⟨l,o,arr,t,f,rfl,hw,_,_⟩:=cells_lift h0 h00
   have hlt:l<w.heap.size:=(Array.getElem?_eq_some_iff.1 hw).1
   refine .inr ⟨l,o,cap,by simp [lift1,hlt,hl],by simpa using hl,hlt,fun hne=>⟨_,lift_block hw,?_,fun i y hy=>?_⟩⟩
   ·have hlen0:0<len:=by
     rcases Nat.eq_zero_or_pos len with h1|h1
     ·subst h1;simp at hne
     ·exact h1
    obtain⟨cs',y,h1,_⟩:=hcell (len-1) (by omega)
    obtain⟨l',o',arr',t',f',ea,hw',_,hsz⟩:=cells_lift h0 h1
    have:l'=l∧o'=o+(len-1)*s:=by
     unfold Addr.add at ea
     split at ea
     ·rename_i hz;injection ea with e1 e2;exact⟨e1.symm,by omega⟩
     ·injection ea with e1 e2;exact⟨e1.symm,e2.symm⟩
    obtain⟨rfl,rfl⟩:=this
    rw [hw]at hw'
    injection hw' with hw'
    injection hw' with e1
    subst e1
    have e2:len*s=(len-1)*s+s:=by
     obtain⟨m,rfl⟩: ∃m,len=m+1:=⟨len-1,by omega⟩
     rw [Nat.add_sub_cancel,Nat.succ_mul]
    simp;omega
   ·have hi:i<len:=by have:=(List.getElem?_eq_some_iff.1 hy).1;simpa using this
    obtain⟨cs',y',h1,_⟩:=hcell i hi
    have hch:=Classical.choose_spec (hex ⟨i,hi⟩) cs' h1
    have hy':y=Classical.choose (hex ⟨i,hi⟩):=by
     rw [List.getElem?_ofFn]at hy
     simpa [hi]using hy.symm
    rw [hy']
    obtain⟨l',o',arr',t',f',ea,hw',hcs,hsz⟩:=cells_lift h0 h1
    have:l'=l∧o'=o+i*s:=by
     unfold Addr.add at ea
     split at ea
     ·rename_i hz;injection ea with e1 e2;exact⟨e1.symm,by omega⟩
     ·injection ea with e1 e2;exact⟨e1.symm,e2.symm⟩
    obtain⟨rfl,rfl⟩:=this
    rw [hw]at hw'
    injection hw' with hw'
    injection hw' with e1
    subst e1
    subst hcs
    rw [List.map_take,List.map_drop]at hch
    exact hch
end
section
variable {P:Program} {E:PEnv} {Y:Option YC} {rd:Nat} {fn:Func} {k:List Item} {fr:Fr} {H H' H0:LH} {p:St} {Q:PQ} {w:World}
@[simp] theorem lopx_mkf0 {T:Callee} {f:FuncId} {c:List Operand} :lopx P T (.makeFunc (.func f) #[] ⟨c⟩) fr H=some (.func (.func f) #[] ⟨c.map (ev fr)⟩,H):=by
 show some (Value.func (.func f) ((#[]:Array Operand).map (ev fr)) ((⟨c⟩:Array Operand).map (ev fr)),H)=_
 simp
@[simp] theorem lopx_mkf1 {T:Callee} {f:FuncId} {x:Operand} :lopx P T (.makeFunc (.func f) ⟨[x]⟩ #[]) fr H=some (.func (.func f) ⟨[ev fr x]⟩ #[],H):=by
 show some (Value.func (.func f) ((⟨[x]⟩:Array Operand).map (ev fr)) ((#[]:Array Operand).map (ev fr)),H)=_
 simp
@[simp] theorem lcallee_first {T:Callee} {g:FuncId} {a:Value} {args:List Value} :lcallee P T (.func (.func g) ⟨[a]⟩ #[]) args H=T g (a::args) H:=by
 show T g ([a]++args++(#[]:Array Value).toList) H=_
 simp
@[simp] theorem lcallee_caps {T:Callee} {g:FuncId} {a:Value} {c args:List Value} :lcallee P T (.func (.func g) #[] ⟨a::c⟩) args H=T g (args++a::c) H:=rfl
theorem trunc_no {v:Value} (h:flatB v=false):trunc H (v,H')=(v,H'):=by
 rcases trunc_or v H H' with e|⟨_,e,_⟩
 ·exact e
 ·rw [h]at e;cases e
end
end Go.Lg
namespace Tg.Sc
def find (s:List UInt8):List (List UInt8)→Int→Int
 | [],_=> -1
 |x::xs,k=>if s=x then k else find s xs (k+1)
theorem find_mem {s:List UInt8} : ∀(xs:List (List UInt8)) (k:Int),0≤k→(0≤find s xs k↔s∈xs)
 | [],k,h=>by simp [find]
 |x::xs,k,h=>by
  unfold find
  by_cases hs:s=x
  ·simp [hs,h]
  ·rw [if_neg hs,find_mem xs (k+1) (by omega)];simp [hs]
theorem find_kind {s:List UInt8} : ∀(xs:List (List UInt8)) (k:Nat),find s xs k+1=(kindP s xs k:Nat)∨find s xs k= -1∧kindP s xs k=0
 | [],k=>.inr ⟨rfl,rfl⟩
 |x::xs,k=>by
  unfold find kindP
  by_cases hs:s=x
  ·rw [if_pos hs,if_pos hs.symm];exact .inl (by omega)
  ·rw [if_neg hs,if_neg (fun h=>hs h.symm)]
   exact find_kind xs (k+1)
theorem find_words (s:List UInt8):find s words 0+1=(kindP s words 0:Nat):=by
 rcases find_kind (s:=s) words 0 with h|⟨h,h2⟩
 ·exact h
 ·show find s words ((0:Nat):Int)+1=_
  rw [h,h2];rfl
theorem kind_le (s:List UInt8): ∀(xs:List (List UInt8)) (k:Nat),kindP s xs k≤xs.length+k
 | [],k=>by simp [kindP]
 |x::xs,k=>by
  unfold kindP
  split
  ·simp;omega
  ·have:=kind_le s xs (k+1)
   simp;omega
def wordsT:List UInt8:= [97,115,107,32,104,101,97,100,32,99,104,117,110,107,32,101,110,100,32,97,98,111,114,116,32,114,101,115,101,116]
theorem words_f:Go.Lib.fields wordsT=words:=by decide+kernel
theorem words_ascii:(wordsT.all fun b=>decide (b.toNat<128))=true:=by decide+kernel
def outsT:List UInt8:= [104,101,97,100,32,98,111,100,121,32,101,110,100,32,98,108,111,99,107,32,102,97,105,108,32,114,101,102,117,115,101,100]
def kwBody:List UInt8:= [98,111,100,121]
def kwBlock:List UInt8:= [98,108,111,99,107]
def kwFail:List UInt8:= [102,97,105,108]
def kwRefused:List UInt8:= [114,101,102,117,115,101,100]
def outsW:List (List UInt8):= [kwHead,kwBody,kwEnd,kwBlock,kwFail,kwRefused]
theorem outs_f:Go.Lib.fields outsT=outsW:=by decide+kernel
theorem outs_ascii:(outsT.all fun b=>decide (b.toNat<128))=true:=by decide+kernel
end Tg.Sc
namespace Go.Proofs.YteeiipildjgdbaaGreatDoor.Sc
open Go.Lg Go.Tg
section
variable {H H':LH} {b:UInt8} {l n:Nat} {B:LB} {xs:List (List UInt8)} {s:List UInt8}
def TRow (H:LH) (v:Value) (xs:List (List UInt8)):Prop:=
 (v=.slice none 0 0∧xs= [])∨ ∃(k o c:Nat) (B:LB),v=.slice (some ⟨k,o,none⟩) xs.length c∧H.get k=some B∧k<H.n∧(B.cells.drop o).take xs.length=xs.map str∧xs.length≤c∧B.elem=9
theorem TRow.keep {v:Value} (h:TRow H v xs) (hn:H.n≤H'.n) (hk: ∀k,k<H.n→H'.get k=H.get k):TRow H' v xs:=by
 rcases h with h|⟨k,o,c,B,h1,h2,h3,h4,h5⟩
 ·exact .inl h
 ·exact .inr ⟨k,o,c,B,h1,by rw [hk k h3];exact h2,by omega,h4,h5⟩
theorem TRow.len {v:Value} (h:TRow H v xs):lbuiltin Tryz.prog .len [25] [v] H'=some (.int .i64 xs.length,H'):=by
 rcases h with⟨rfl,rfl⟩|⟨k,o,c,B,rfl,_⟩
 ·simp
 ·simp
theorem TRow.at {v:Value} (h:TRow H v xs) {i:Nat} (hi:i<xs.length): ∃k o,(∀H':LH,lixa Tryz.prog 25 v (.int .i64 i) H'=some (ptr k o,H'))∧k<H.n∧ ∀H':LH,H'.get k=H.get k→lld Tryz.prog 9 (ptr k o) H'=some (str xs[i]):=by
 rcases h with⟨rfl,rfl⟩|⟨k,o,c,B,rfl,h2,h3,h4,h5,_⟩
 ·simp at hi
 ·refine⟨k,o+i,fun H'=>?_,h3,fun H' e=>?_⟩
  ·have q:=eq_true (show(i:Int)<(xs.length:Int) by omega)
   simp [q]
  ·rw [h2]at e
   have hc:B.cells[o+i]?=some (str xs[i]):=by
    have:=congrArg (fun z=>z[i]?) h4
    simp only [List.getElem?_take,if_pos hi,List.getElem?_drop,List.getElem?_map,List.getElem?_eq_getElem hi,Option.map_some]at this
    exact this
   obtain⟨hlt,hc⟩:=List.getElem?_eq_some_iff.mp hc
   simp [e,hlt,hc]
theorem TRow.new {c:Nat} (hc:xs.length≤c):TRow (H.new ⟨xs.map str,9,true⟩) (.slice (some ⟨H.n,0,none⟩) xs.length c) xs:=
 .inr ⟨H.n,0,c,_,rfl,get_new,by simp,by rw [List.drop_zero,List.take_of_length_le (by simp)],hc,rfl⟩
theorem TRow.of_own {N:Nat} {v:Value} (h:RowN N H 9 1 v xs.length (xs.map str)):TRow H v xs:=by
 rcases h.2 with⟨rfl,h0⟩|⟨k,c,rest,rfl,h1,h2,h3,h4,h5⟩
 ·exact .inl ⟨rfl,List.eq_nil_of_length_eq_zero h0⟩
 ·exact .inr ⟨k,0,c,_,rfl,h3,h2,by simp,h4,rfl⟩
theorem TRow.slice {v:Value} (h:TRow H v xs): ∃pa pl pc,v=.slice pa pl pc:=by
 rcases h with⟨rfl,_⟩|⟨k,o,c,B,rfl,_⟩
 ·exact⟨_,_,_,rfl⟩
 ·exact⟨_,_,_,rfl⟩
theorem sindex_l {v:Value} (h:TRow H v xs) (hn:xs.length≤1048576):LC Tryz.prog EJ 22 [v,str s] H=some (.int .i64 (Tg.Sc.find s xs 0),H):=by
 refine LC_pure rfl Tryz.func22 rfl (by kernel_rfl) rfl ?_
 have hlen:=fun H':LH=>h.len (H':=H')
 simp [hlen]
 refine loop_ind (fun(i:Nat) fr' H'=>fr' 0=v∧fr' 1=str s∧fr' 7=.int .i64 xs.length∧fr' 8=.int .i64 i∧i≤xs.length∧Tg.Sc.find s (xs.drop i) i=Tg.Sc.find s xs 0∧H'=H) (fun i=>xs.length-i) 0 (by simp) ?_
 rintro i fr' H' ⟨h0,h1,h7,h8,hi,hh,rfl⟩ ih
 by_cases hlt:i<xs.length
 ·have hd:xs.drop i=xs[i]::xs.drop (i+1):=List.drop_eq_getElem_cons hlt
  have q:=eq_true (show(i:Int)<(xs.length:Int) by omega)
  obtain⟨k,o,g1,g2,g3⟩:=h.at hlt
  have g4:=g3 H' rfl
  have hw:IntKind.i64.wrap ((i:Int)+1)=((i+1:Nat):Int):=by rw [wrap64_in (by omega) (by omega)];omega
  rw [hd,Tg.Sc.find]at hh
  generalize xs[i]=x at*
  by_cases hs:s=x
  ·have hs':(s=x)=True:=eq_true hs
   rw [if_pos hs]at hh
   simp [h0,h1,h7,h8,q,g1,g4,hs',←hh]
  ·have hs':(s=x)=False:=eq_false hs
   rw [if_neg hs]at hh
   simp [h0,h1,h7,h8,q,g1,g4,hs',hw]
   exact ih (i+1) _ _ (by omega) ⟨by simp [h0],by simp [h1],by simp [h7],by simp,hlt,by simpa using hh,rfl⟩
 ·have hd:xs.drop i= []:=List.drop_eq_nil_of_le (by omega)
  have q:=eq_false (show¬(i:Int)<(xs.length:Int) by omega)
  rw [hd,Tg.Sc.find]at hh
  simp [h0,h1,h7,h8,q,←hh]
theorem scontains_l {v:Value} (h:TRow H v xs) (hn:xs.length≤1048576):LC Tryz.prog EJ 144 [v,str s] H=some (.bool (xs.contains s),H):=by
 refine LC_pure rfl Tryz.func144 rfl (by kernel_rfl) rfl ?_
 have hi:=sindex_l (s:=s) h hn
 have:=Tg.Sc.find_mem (s:=s) xs 0 (by decide)
 simp [hi,this]
theorem mode_cl:LC Tryz.prog EJ 121 [str s] H=some (.bool (Tg.Sc.modes.contains s),H):=by
 refine LC_pure rfl Tryz.func121 rfl (by kernel_rfl) rfl ?_
 have hc:=scontains_l (H:=H.new ⟨Tg.Sc.modes.map str,9,true⟩) (v:=sl H.n 4 4) (s:=s) (TRow.new (H:=H) (xs:=Tg.Sc.modes) (c:=4) (Nat.le_refl _)) (by decide)
 generalize hb:Tg.Sc.modes.contains s=b at*
 unfold Tg.Sc.modes at hc
 simp only [List.map_cons,List.map_nil]at hc
 simp [hc]
theorem fields_at (ht:Tab H) {t:List UInt8} {ws:List (List UInt8)} (hl:t.length≤1000) (ha:(t.all fun b=>decide (b.toNat<128))=true) (hf:Lib.fields t=ws) (hw:ws.length≤1000):LC Tryz.prog EJ 105 [str t] H=some (sl H.n ws.length ws.length,H.new ⟨ws.map str,9,true⟩):=LC_ext (s:=specFields) rfl (by
 unfold specFields str
 dsimp only
 rw [if_pos ⟨by rw [ba_size];omega,fun j b hb=>by
  have:=List.all_eq_true.mp ha b (List.mem_of_getElem? hb)
  simpa using this,ht,by show(Lib.fields t).length≤_;rw [hf];unfold maxLen;omega⟩]
 show some (sl H.n (Lib.fields t).length (Lib.fields t).length,_)=_
 rw [hf])
theorem words_l (ht:Tab H):LC Tryz.prog EJ 91 [] H=some (sl H.n 6 6,H.new ⟨Tg.Sc.words.map str,9,true⟩):=by
 have hf:=fields_at ht (t:=Tg.Sc.wordsT) (ws:=Tg.Sc.words) (by decide) Tg.Sc.words_ascii Tg.Sc.words_f (by decide)
 unfold Tg.Sc.wordsT at hf
 rw [show Tg.Sc.words.length=6 from rfl]at hf
 obtain⟨r,h,e⟩:=LC_runs (P:=Tryz.prog) (E:=EJ) (f:=91) rfl Tryz.func91 rfl (by kernel_rfl) (H:=H) (args:= []) (Q:=fun r=>r=(sl H.n 6 6,H.new ⟨Tg.Sc.words.map str,9,true⟩)) (by simp [hf])
 rw [h,e,trunc_no (by simp [flatB,flat1B,atomB])]
theorem outs_l (ht:Tab H):LC Tryz.prog EJ 77 [] H=some (sl H.n 6 6,H.new ⟨Tg.Sc.outsW.map str,9,true⟩):=by
 have hf:=fields_at ht (t:=Tg.Sc.outsT) (ws:=Tg.Sc.outsW) (by decide) Tg.Sc.outs_ascii Tg.Sc.outs_f (by decide)
 unfold Tg.Sc.outsT at hf
 rw [show Tg.Sc.outsW.length=6 from rfl]at hf
 obtain⟨r,h,e⟩:=LC_runs (P:=Tryz.prog) (E:=EJ) (f:=77) rfl Tryz.func77 rfl (by kernel_rfl) (H:=H) (args:= []) (Q:=fun r=>r=(sl H.n 6 6,H.new ⟨Tg.Sc.outsW.map str,9,true⟩)) (by simp [hf])
 rw [h,e,trunc_no (by simp [flatB,flat1B,atomB])]
theorem join_cl {v:Value} (h:TRow H v xs) (hne:xs≠ []) (hn:xs.length≤1000000) (hl:(Tg.Sc.wl xs).length≤9000000):LC Tryz.prog EJ 79 [v] H=some (str (Tg.Sc.wl xs),H):=by
 have hj:LC Tryz.prog EJ 106 [v,str [32]] H=some (str (Tg.Sc.wl xs),H):=by
  rcases h with⟨rfl,h0⟩|⟨k,o,c,B,rfl,g1,g2,g3,g4,_⟩
  ·exact absurd h0 hne
  ·rw [←Tg.Sc.wl_join]at hl⊢
   exact join_l (n:=xs.length) g1 (by intro e;exact hne (List.eq_nil_of_length_eq_zero e)) g4 (by omega) rfl g3 (by omega)
 refine LC_pure rfl Tryz.func79 rfl (by kernel_rfl) (by simp) ?_
 simp [hj]
end
section
variable {H:LH} {v w:Value} {l m:List Tg.Hd.Hdr}
theorem hequal_cl (hr:HRow H v l) (hw:HRow H w m) (hl:l.length≤1000000):LC Tryz.prog EJ 123 [v,w] H=some (.bool (decide (l=m)),H):=by
 refine LC_pure rfl Tryz.func123 rfl (by kernel_rfl) rfl ?_
 by_cases hlm:l.length=m.length
 ·obtain⟨x,hx⟩: ∃x,x=decide (l.drop 0=m.drop 0):=⟨_,rfl⟩
  have e:decide (l=m)=x:=hx.symm
  rw [e]
  have q0:=eq_true (show(l.length:Int)=(m.length:Int) by omega)
  simp [hr.len,hw.len,q0,hlm]
  refine loop_ind (fun(i:Nat) fr' H'=>fr' 0=v∧fr' 1=w∧fr' 12=.int .i64 l.length∧fr' 13=.int .i64 i∧i≤l.length∧x=decide (l.drop i=m.drop i)∧H'=H) (fun i=>l.length-i) 0 ⟨by simp,by simp,by simp [hlm],by simp,Nat.zero_le _,hx,rfl⟩ ?_
  rintro i fr' H' ⟨h0,h1,h12,h5,hi,hc,rfl⟩ ih
  by_cases hlt:i<l.length
  ·have q:=eq_true (show(i:Int)<(m.length:Int) by omega)
   have q':=eq_true (show(i:Int)<(l.length:Int) by omega)
   have hlt2:i<m.length:=by omega
   have hw1:IntKind.i64.wrap ((i:Int)+1)=((i+1:Nat):Int):=by rw [wrapI (by omega) (by omega)];omega
   obtain⟨k,o,g1,g2,g3⟩:=hr.at hlt
   obtain⟨k',o',g1',g2',g3'⟩:=hw.at hlt2
   obtain⟨g4,_,_⟩:=g3 H' rfl
   obtain⟨g4',_,_⟩:=g3' H' rfl
   have hne:=fun a b=>hdr_ne (a:=a) (b:=b)
   rw [List.drop_eq_getElem_cons hlt,List.drop_eq_getElem_cons hlt2]at hc
   generalize l[i]=a at*
   generalize m[i]=b at*
   by_cases hab:a=b
   ·subst hab
    have hc:x=decide (l.drop (i+1)=m.drop (i+1)):=by rw [hc];simp
    simp [h0,h1,h12,h5,q,q',hlt,hlt2,g1,g4,g1',g4',hne,hr.len]
    refine ih (i+1) _ _ (by omega) ⟨?_,?_,?_,?_,by omega,hc,rfl⟩
    all_goals simp [h0,h1,h12,hw1]
   ·have hc:x=false:=by rw [hc];simp [hab]
    subst hc
    simp [h0,h1,h12,h5,q,q',hlt,hlt2,g1,g4,g1',g4',hne,hab,hr.len]
  ·have q:=eq_false (show¬(i:Int)<(m.length:Int) by omega)
   have q':=eq_false (show¬(i:Int)<(l.length:Int) by omega)
   rw [List.drop_of_length_le (by omega),List.drop_of_length_le (by omega)]at hc
   have hc:x=true:=hc
   subst hc
   simp [h0,h1,h12,h5,q,q',hlt,hr.len]
 ·have e:decide (l=m)=false:=decide_eq_false (fun e=>hlm (by rw [e]))
  have q0:=eq_false (show¬(l.length:Int)=(m.length:Int) by omega)
  rw [e]
  simp [hr.len,hw.len,q0,hlm]
end
section
variable {H:LH} {v w:Value} {l m:List (List UInt8)}
theorem tequal_cl (hr:TRow H v l) (hw:TRow H w m) (hl:l.length≤1000000):LC Tryz.prog EJ 71 [v,w] H=some (.bool (decide (l=m)),H):=by
 refine LC_pure rfl Tryz.func71 rfl (by kernel_rfl) rfl ?_
 by_cases hlm:l.length=m.length
 ·obtain⟨x,hx⟩: ∃x,x=decide (l.drop 0=m.drop 0):=⟨_,rfl⟩
  have e:decide (l=m)=x:=hx.symm
  rw [e]
  have q0:=eq_true (show(l.length:Int)=(m.length:Int) by omega)
  simp [hr.len,hw.len,q0,hlm]
  refine loop_ind (fun(i:Nat) fr' H'=>fr' 0=v∧fr' 1=w∧fr' 12=.int .i64 l.length∧fr' 13=.int .i64 i∧i≤l.length∧x=decide (l.drop i=m.drop i)∧H'=H) (fun i=>l.length-i) 0 ⟨by simp,by simp,by simp [hlm],by simp,Nat.zero_le _,hx,rfl⟩ ?_
  rintro i fr' H' ⟨h0,h1,h12,h5,hi,hc,rfl⟩ ih
  by_cases hlt:i<l.length
  ·have q:=eq_true (show(i:Int)<(m.length:Int) by omega)
   have q':=eq_true (show(i:Int)<(l.length:Int) by omega)
   have hlt2:i<m.length:=by omega
   have hw1:IntKind.i64.wrap ((i:Int)+1)=((i+1:Nat):Int):=by rw [wrapI (by omega) (by omega)];omega
   obtain⟨k,o,g1,g2,g3⟩:=hr.at hlt
   obtain⟨k',o',g1',g2',g3'⟩:=hw.at hlt2
   have g4:=g3 H' rfl
   have g4':=g3' H' rfl
   rw [List.drop_eq_getElem_cons hlt,List.drop_eq_getElem_cons hlt2]at hc
   generalize l[i]=a at*
   generalize m[i]=b at*
   by_cases hab:a=b
   ·subst hab
    have hc:x=decide (l.drop (i+1)=m.drop (i+1)):=by rw [hc];simp
    simp [h0,h1,h12,h5,q,q',hlt,hlt2,g1,g4,g1',g4',hr.len]
    refine ih (i+1) _ _ (by omega) ⟨?_,?_,?_,?_,by omega,hc,rfl⟩
    all_goals simp [h0,h1,h12,hw1]
   ·have hc:x=false:=by rw [hc];simp [hab]
    subst hc
    simp [h0,h1,h12,h5,q,q',hlt,hlt2,g1,g4,g1',g4',hab,hr.len]
  ·have q:=eq_false (show¬(i:Int)<(m.length:Int) by omega)
   have q':=eq_false (show¬(i:Int)<(l.length:Int) by omega)
   rw [List.drop_of_length_le (by omega),List.drop_of_length_le (by omega)]at hc
   have hc:x=true:=hc
   subst hc
   simp [h0,h1,h12,h5,q,q',hlt,hr.len]
 ·have e:decide (l=m)=false:=decide_eq_false (fun e=>hlm (by rw [e]))
  have q0:=eq_false (show¬(l.length:Int)=(m.length:Int) by omega)
  rw [e]
  simp [hr.len,hw.len,q0,hlm]
end
abbrev evv (e:Tg.Sc.Ev) (p:Value):Value:=.agg #[.int .i64 e.kind,.int .i64 e.id,str e.url,str e.src,str e.mode,.int .i64 e.media,.int .i64 e.status,p,str e.body]
structure EvZ (e:Tg.Sc.Ev):Prop where
 url:e.url.length≤300000
 src:e.src.length≤300000
 mode:e.mode.length≤300000
 body:e.body.length≤300000
 hn:e.hdrs.length≤90000
 hs: ∀h∈e.hdrs,h.1.length≤300000∧h.2.length≤300000
 id0: -9223372036854775808≤e.id
 id1:e.id≤9223372036854775807
 me0: -9223372036854775808≤e.media
 me1:e.media≤9223372036854775807
 st0: -9223372036854775808≤e.status
 st1:e.status≤9223372036854775807
end Go.Proofs.YteeiipildjgdbaaGreatDoor.Sc
namespace Tg.Sc
def fitsB (e:Ev):Bool:=
 if e.kind=1 then decide (e.url.length≤1000)&&decide (e.src.length≤1000)&&modes.contains e.mode&&decide (0≤e.media)&&decide (e.media≤2)
 else if e.kind=2 then decide (0≤e.status)&&decide (e.status≤9999)&&Tg.Hd.good e.hdrs
 else if e.kind=3 then decide (e.body.length≤10000)else true
def onlyE (e:Ev):Ev:=
 if e.kind=1 then { ev0 with kind:=e.kind,id:=e.id,url:=e.url,src:=e.src,mode:=e.mode,media:=e.media }
 else if e.kind=2 then { ev0 with kind:=e.kind,id:=e.id,status:=e.status,hdrs:=e.hdrs }
 else if e.kind=3 then { ev0 with kind:=e.kind,id:=e.id,body:=e.body }
 else if e.kind=6 then { ev0 with kind:=e.kind,id:=0 }
 else { ev0 with kind:=e.kind,id:=e.id }
theorem good_code (e:Ev):good e=(((decide (1≤e.kind)&&decide (e.kind≤6))&&((decide (1≤e.id)&&decide (e.id≤1000000))||(decide (e.kind=6)&&decide (e.id=0))))&&fitsB e&&decide (e=onlyE e)):=by
 obtain⟨kind,id,url,src,mode,media,status,hdrs,body⟩:=e
 unfold good fitsB onlyE ev0
 simp only [Ev.mk.injEq]
 by_cases hk:1≤kind∧kind≤6
 ·have hc:kind=1∨kind=2∨kind=3∨kind=4∨kind=5∨kind=6:=by omega
  rcases hc with rfl|rfl|rfl|rfl|rfl|rfl
  ·simp;grind
  ·simp;grind
  ·simp;grind
  ·simp;grind
  ·simp;grind
  ·simp;grind
 ·have:(decide (1≤kind)&&decide (kind≤6))=false:=by
   rw [Bool.and_eq_false_iff,decide_eq_false_iff_not,decide_eq_false_iff_not];omega
  simp [this]
end Tg.Sc
namespace Go.Proofs.YteeiipildjgdbaaGreatDoor.Sc
open Go.Lg Go.Tg
section
variable {H:LH} {p q:Value} {e f:Tg.Sc.Ev}
theorem hGood_cl {v:Value} {l:List Tg.Hd.Hdr} (hr:HRow H v l) (hl:l.length≤1000000) (hs: ∀h∈l,h.1.length≤1048576∧h.2.length≤1048576):LC Tryz.prog EJ 122 [v] H=some (.bool (Tg.Hd.good l),H):=by
 refine LC_pure rfl Tryz.func122 rfl (by kernel_rfl) rfl ?_
 have h1:=good_hl hr hl hs
 simp [h1]
theorem fits_cl (hr:HRow H p e.hdrs) (hz:EvZ e):LC Tryz.prog EJ 96 [evv e p] H=some (.bool (Tg.Sc.fitsB e),H):=by
 refine LC_pure rfl Tryz.func96 rfl (by kernel_rfl) rfl ?_
 obtain⟨kind,id,url,src,mode,media,status,hdrs,body⟩:=e
 have hr1:=hr.keep (H':=H.new ⟨[.int .i64 kind,.int .i64 id,str url,str src,str mode,.int .i64 media,.int .i64 status,p,str body],83,true⟩) (Nat.le_succ _) (fun k hk=>get_new_ne (by omega))
 have hg:=hGood_cl hr1 (by have:=hz.hn;omega) (fun h hh=>by have:=hz.hs h hh;omega)
 have hm:=fun H:LH=>mode_cl (H:=H) (s:=mode)
 unfold Tg.Sc.fitsB
 simp only
 generalize Tg.Sc.modes.contains mode=mo at*
 generalize Tg.Hd.good hdrs=hd at*
 by_cases k1:kind=1
 ·subst k1
  by_cases a1:url.length≤1000
  ·have b1:=eq_true (show(url.length:Int)≤1000 by omega)
   by_cases a2:src.length≤1000
   ·have b2:=eq_true (show(src.length:Int)≤1000 by omega)
    cases mo
    ·simp [a1,a2,b1,b2,hm]
    ·by_cases a3:0≤media
     ·simp [a1,a2,b1,b2,hm,a3]
     ·simp [a1,a2,b1,b2,hm,a3]
   ·have b2:=eq_false (show¬(src.length:Int)≤1000 by omega)
    simp [a1,a2,b1,b2,hm]
  ·have b1:=eq_false (show¬(url.length:Int)≤1000 by omega)
   simp [a1,b1,hm]
 ·by_cases k2:kind=2
  ·subst k2
   by_cases a1:0≤status
   ·by_cases a2:status≤9999
    ·simp [a1,a2,hg]
    ·simp [a1,a2,hg]
   ·simp [a1,hg]
  ·by_cases k3:kind=3
   ·subst k3
    have b1:((body.length:Int)≤10000)=(body.length≤10000):=propext (by omega)
    simp [b1]
   ·simp [k1,k2,k3]
end
abbrev evc (e:Tg.Sc.Ev) (p:Value):LB:=⟨[.int .i64 e.kind,.int .i64 e.id,str e.url,str e.src,str e.mode,.int .i64 e.media,.int .i64 e.status,p,str e.body],83,true⟩
section
variable {H:LH} {p q:Value} {e f:Tg.Sc.Ev}
theorem _root_.Go.Proofs.YteeiipildjgdbaaGreatDoor.HRow.new1 {b:LB} {v:Value} {l:List Tg.Hd.Hdr} (h:HRow H v l):HRow (H.new b) v l:=h.keep (Nat.le_succ _) (fun k hk=>get_new_ne (by omega))
theorem _root_.Go.Proofs.YteeiipildjgdbaaGreatDoor.HRow.slice {v:Value} {l:List Tg.Hd.Hdr} (h:HRow H v l): ∃a n c,v=.slice a n c:=by
 rcases h with⟨rfl,_⟩|⟨k,o,c,rfl,_⟩
 ·exact⟨_,_,_,rfl⟩
 ·exact⟨_,_,_,rfl⟩
def askB (a b:Tg.Sc.Ev):Bool:=decide (a.url=b.url)&&decide (a.src=b.src)&&decide (a.mode=b.mode)&&decide (a.media=b.media)
def repB (a b:Tg.Sc.Ev):Bool:=decide (a.status=b.status)&&decide (a.hdrs=b.hdrs)
theorem same_b (a b:Tg.Sc.Ev):decide (a=b)=(decide (a.kind=b.kind)&&decide (a.id=b.id)&&askB a b&&repB a b&&decide (a.body=b.body)):=by
 obtain⟨k1,i1,u1,s1,m1,d1,t1,h1,b1⟩:=a
 obtain⟨k2,i2,u2,s2,m2,d2,t2,h2,b2⟩:=b
 unfold askB repB
 simp only [Tg.Sc.Ev.mk.injEq]
 rw [Bool.eq_iff_iff]
 simp
 grind
theorem csame2_cl (hp:HRow H p e.hdrs) (hq:HRow H q f.hdrs) (hz:e.hdrs.length≤1000000):LC Tryz.prog EJ 97 [evv e p,evv f q] H=some (.bool (decide (e=f)),H):=by
 refine LC_pure rfl Tryz.func97 rfl (by kernel_rfl) rfl ?_
 obtain⟨pa,pn,pc,rfl⟩:=hp.slice
 obtain⟨qa,qn,qc,rfl⟩:=hq.slice
 have hp2:HRow ((H.new (evc e (.slice pa pn pc))).new (evc f (.slice qa qn qc))) _ _:=hp.new1.new1
 have hq2:HRow ((H.new (evc e (.slice pa pn pc))).new (evc f (.slice qa qn qc))) _ _:=hq.new1.new1
 have heq:=hequal_cl hp2 hq2 hz
 obtain⟨H2,hH2⟩: ∃H2,H2=(H.new (evc e (.slice pa pn pc))).new (evc f (.slice qa qn qc)):=⟨_,rfl⟩
 have g1:H2.get H.n=some (evc e (.slice pa pn pc)):=by rw [hH2,get_new_ne (by simp),get_new]
 have g2:H2.get (H.n+1)=some (evc f (.slice qa qn qc)):=by rw [hH2];exact get_new
 have hle:H.le H2:=by rw [hH2];exact le_refl.new.new
 refine runs_cut 3 (fun fr' H'=>fr' 2=ptr H.n 0∧fr' 3=ptr (H.n+1) 0∧fr' 5=.bool (askB e f)∧fr' 6=.bool (repB e f)∧H2=H') ?_ (fun K3 hK3=>?_) rfl
 ·rintro fr' H' ⟨f2,f3,f5,f6,rfl⟩
  rw [same_b]
  by_cases h1:e.kind=f.kind
  ·have h1:=eq_true h1
   by_cases h2:e.id=f.id
   ·have h2:=eq_true h2
    cases h3:askB e f
    ·simp [f2,f3,f5,f6,g1,g2,h1,h2,h3,hle]
    ·cases h4:repB e f
     ·simp [f2,f3,f5,f6,g1,g2,h1,h2,h3,h4,hle]
     ·simp [f2,f3,f5,f6,g1,g2,h1,h2,h3,h4,hle]
   ·have h2:=eq_false h2
    simp [f2,f3,f5,f6,g1,g2,h1,h2,hle]
  ·have h1:=eq_false h1
   simp [f2,f3,f5,f6,g1,g2,h1,hle]
 refine runs_cut 2 (fun fr' H'=>fr' 2=ptr H.n 0∧fr' 3=ptr (H.n+1) 0∧fr' 5=.bool (askB e f)∧H2=H') ?_ (fun K2 hK2=>?_) rfl
 ·rintro fr' H' ⟨f2,f3,f5,rfl⟩
  rw [←hH2]at heq
  have hfin:=fun fr' (g2:fr' 2=ptr H.n 0) (g3:fr' 3=ptr (H.n+1) 0) (g5:fr' 5=.bool (askB e f)) (g6:fr' 6=.bool (repB e f))=>hK3 fr' H2 ⟨g2,g3,g5,g6,rfl⟩
  unfold repB at hfin
  clear hK3
  by_cases h1:e.status=f.status
  ·have h1:=eq_true h1
   simp [f2,f3,g1,g2,h1,heq]
   refine hfin _ ?_ ?_ ?_ ?_
   all_goals simp [f2,f3,f5,h1]
  ·have h1:=eq_false h1
   simp [f2,f3,g1,g2,h1]
   refine hfin _ ?_ ?_ ?_ ?_
   all_goals simp [f2,f3,f5,h1]
 have hfin:=fun fr' (g2:fr' 2=ptr H.n 0) (g3:fr' 3=ptr (H.n+1) 0) (g5:fr' 5=.bool (askB e f))=>hK2 fr' H2 ⟨g2,g3,g5,rfl⟩
 unfold askB at hfin
 clear hK2 hK3 heq
 by_cases h1:e.url=f.url
 ·have h1:=eq_true h1
  by_cases h2:e.src=f.src
  ·have h2:=eq_true h2
   by_cases h3:e.mode=f.mode
   ·have h3:=eq_true h3
    simp [h1,h2,h3,←hH2,g1,g2]
    refine hfin _ ?_ ?_ ?_
    all_goals simp [h1,h2,h3]
   ·have h3:=eq_false h3
    simp [h1,h2,h3,←hH2,g1,g2]
    refine hfin _ ?_ ?_ ?_
    all_goals simp [h1,h2,h3]
  ·have h2:=eq_false h2
   simp [h1,h2,←hH2,g1,g2]
   refine hfin _ ?_ ?_ ?_
   all_goals simp [h1,h2]
 ·have h1:=eq_false h1
  simp [h1,←hH2,g1,g2]
  refine hfin _ ?_ ?_ ?_
  all_goals simp [h1]
structure OutE (H:LH) (e:Tg.Sc.Ev) (v:Value) (H':LH):Prop where
 ex: ∃p,v=evv e p∧HRow H' p e.hdrs
 le:H.le H'
theorem OutE.trunc {v:Value} {H':LH} (h:OutE H e v H'): ∃H2,Lg.trunc H (v,H')=(v,H2)∧OutE H e v H2:=by
 rcases trunc_or v H H' with e2|⟨e2,hf,_⟩
 ·exact⟨H',e2,h⟩
 ·refine⟨H,e2,?_,le_refl⟩
  obtain⟨p,hv,hr⟩:=h.ex
  refine⟨p,hv,?_⟩
  rw [hv]at hf
  rcases hr with h1|⟨k,o,c,rfl,_⟩
  ·exact .inl h1
  ·simp [flatB,flat1B,atomB]at hf
theorem only_ex (hp:HRow H p e.hdrs): ∃v H',LC Tryz.prog EJ 98 [evv e p] H=some (v,H')∧OutE H (Tg.Sc.onlyE e) v H':=by
 obtain⟨pa,pn,pc,rfl⟩:=hp.slice
 have key: ∃r,LC Tryz.prog EJ 98 [evv e (.slice pa pn pc)] H=some (Lg.trunc H r)∧OutE H (Tg.Sc.onlyE e) r.1 r.2:=by
  refine LC_runs (P:=Tryz.prog) (E:=EJ) (f:=98) rfl Tryz.func98 rfl (by kernel_rfl) ?_
  obtain⟨kind,id,url,src,mode,media,status,hdrs,body⟩:=e
  unfold Tg.Sc.onlyE Tg.Sc.ev0
  simp only
  have fin: ∀(e:Tg.Sc.Ev) (H2:LH),e.hdrs= []→H.le H2→OutE H e (evv e (.slice none 0 0)) H2:=fun e H2 h1 h2=>⟨⟨_,rfl,.inl ⟨rfl,h1⟩⟩,h2⟩
  have d2:=eq_false (show¬H.n=H.n+1+1 by omega)
  by_cases k1:kind=1
  ·subst k1
   simp [d2]
   refine fin ⟨1,id,url,src,mode,media,0,[],[]⟩ _ rfl (by simp;exact le_refl.new.new.new)
  ·by_cases k2:kind=2
   ·subst k2
    simp [d2,splice]
    refine⟨⟨.slice pa pn pc,rfl,?_⟩,?_⟩
    ·exact hp.keep (by simp;omega) (fun k hk=>by simp [show k≠H.n by omega,show k≠H.n+1 by omega,show k≠H.n+1+1 by omega])
    ·simp
     exact le_refl.new.new.new
   ·by_cases k3:kind=3
    ·subst k3
     simp [d2]
     refine fin ⟨3,id,[],[],[],0,0,[],body⟩ _ rfl (by simp;exact le_refl.new.new.new)
    ·by_cases k6:kind=6
     ·subst k6
      simp [d2]
      refine fin ⟨6,0,[],[],[],0,0,[],[]⟩ _ rfl (by simp;exact le_refl.new.new.new)
     ·simp [k1,k2,k3,k6,d2]
      refine fin ⟨kind,id,[],[],[],0,0,[],[]⟩ _ rfl (by simp;exact le_refl.new.new.new)
 obtain⟨r,e,ho⟩:=key
 obtain⟨H2,e2,ho2⟩:=ho.trunc
 exact⟨r.1,H2,by rw [e,←e2],ho2⟩
theorem good_cl (hr:HRow H p e.hdrs) (hz:EvZ e):LC Tryz.prog EJ 70 [evv e p] H=some (.bool (Tg.Sc.good e),H):=by
 refine LC_pure rfl Tryz.func70 rfl (by kernel_rfl) rfl ?_
 obtain⟨pa,pn,pc,rfl⟩:=hr.slice
 obtain⟨x,hx⟩: ∃x,x=Tg.Sc.good e:=⟨_,rfl⟩
 rw [←hx]
 rw [Tg.Sc.good_code]at hx
 obtain⟨Hb,hHb⟩: ∃Hb,Hb=H.new (evc e (.slice pa pn pc)):=⟨_,rfl⟩
 have gb:Hb.get H.n=some (evc e (.slice pa pn pc)):=by rw [hHb];exact get_new
 have hle:H.le Hb:=by rw [hHb];exact le_refl.new
 have hr1:HRow Hb (.slice pa pn pc) e.hdrs:=by rw [hHb];exact hr.new1
 have hnb:Hb.n=H.n+1:=by rw [hHb];rfl
 have hf:=fits_cl hr1 hz
 obtain⟨v,H2,eo,⟨q,hv,hq⟩,hle2⟩:=only_ex hr1
 subst hv
 have hs:=csame2_cl (hr1.keep hle2.1 hle2.2) hq (by have:=hz.hn;omega)
 have gb2:H2.get H.n=some (evc e (.slice pa pn pc)):=by rw [hle2.2 H.n (by omega)];exact gb
 refine runs_cut 3 (fun fr' H'=>fr' 1=ptr H.n 0∧fr' 3=.bool (decide (1≤e.kind)&&decide (e.kind≤6))∧fr' 4=.bool ((decide (1≤e.id)&&decide (e.id≤1000000))||(decide (e.kind=6)&&decide (e.id=0)))∧Hb=H') ?_ (fun K3 hK3=>?_) rfl
 ·rintro fr' H' ⟨f1,f3,f4,rfl⟩
  subst hx
  generalize (decide (1≤e.kind)&&decide (e.kind≤6))=b1 at*
  generalize ((decide (1≤e.id)&&decide (e.id≤1000000))||(decide (e.kind=6)&&decide (e.id=0)))=b2 at*
  generalize Tg.Sc.fitsB e=b3 at*
  generalize decide (e=Tg.Sc.onlyE e)=b4 at*
  cases b1 with
  |false=>simp [f1,f3,f4,gb,hle]
  |true=>
   cases b2 with
   |false=>simp [f1,f3,f4,gb,hle]
   |true=>
    cases b3 with
    |false=>simp [f1,f3,f4,gb,hf,hle]
    |true=>
     simp [f1,f3,f4,gb,hf,eo,hs,gb2,hle]
     exact⟨Nat.le_trans hle.1 hle2.1,fun k hk=>by rw [hle2.2 k (by omega),hle.2 k hk]⟩
 refine runs_cut 2 (fun fr' H'=>fr' 1=ptr H.n 0∧fr' 3=.bool (decide (1≤e.kind)&&decide (e.kind≤6))∧Hb=H') ?_ (fun K2 hK2=>?_) rfl
 ·rintro fr' H' ⟨f1,f3,rfl⟩
  have hfin:=fun fr' (g1:fr' 1=ptr H.n 0) (g3:fr' 3=.bool (decide (1≤e.kind)&&decide (e.kind≤6))) (g4:fr' 4=.bool ((decide (1≤e.id)&&decide (e.id≤1000000))||(decide (e.kind=6)&&decide (e.id=0))))=>hK3 fr' Hb ⟨g1,g3,g4,rfl⟩
  clear hK3 hx
  by_cases h1:1≤e.id
  ·by_cases h2:e.id≤1000000
   ·simp [f1,gb,h1,h2]
    refine hfin _ ?_ ?_ ?_
    all_goals simp [f1,f3,h1,h2]
   ·by_cases h3:e.kind=6
    ·have h3:=eq_true h3
     by_cases h4:e.id=0
     ·omega
     ·have h4:=eq_false h4
      simp [f1,gb,h1,h2,h3,h4]
      refine hfin _ ?_ ?_ ?_
      all_goals simp [f1,f3,h1,h2,h3,h4]
    ·have h3:=eq_false h3
     simp [f1,gb,h1,h2,h3]
     refine hfin _ ?_ ?_ ?_
     all_goals simp [f1,f3,h1,h2,h3]
  ·by_cases h3:e.kind=6
   ·have h3:=eq_true h3
    by_cases h4:e.id=0
    ·have h4:=eq_true h4
     simp [f1,gb,h1,h3,h4]
     refine hfin _ ?_ ?_ ?_
     all_goals simp [f1,f3,h1,h3,h4]
    ·have h4:=eq_false h4
     simp [f1,gb,h1,h3,h4]
     refine hfin _ ?_ ?_ ?_
     all_goals simp [f1,f3,h1,h3,h4]
   ·have h3:=eq_false h3
    simp [f1,gb,h1,h3]
    refine hfin _ ?_ ?_ ?_
    all_goals simp [f1,f3,h1,h3]
 have hfin:=fun fr' (g1:fr' 1=ptr H.n 0) (g3:fr' 3=.bool (decide (1≤e.kind)&&decide (e.kind≤6)))=>hK2 fr' Hb ⟨g1,g3,rfl⟩
 clear hK2 hK3 hf hs eo hx
 by_cases h1:1≤e.kind
 ·by_cases h2:e.kind≤6
  ·simp [h1,h2,←hHb,gb]
   refine hfin _ ?_ ?_
   all_goals simp [h1,h2]
  ·simp [h1,h2,←hHb,gb]
   refine hfin _ ?_ ?_
   all_goals simp [h1,h2]
 ·simp [h1,←hHb,gb]
  refine hfin _ ?_ ?_
  all_goals simp [h1]
end
end Go.Proofs.YteeiipildjgdbaaGreatDoor.Sc
namespace Go.Proofs.YteeiipildjgdbaaGreatDoor
open Go.Lg Go.Tg
def SpecBs (s:Lg.Spec):Prop:= ∀args H v H',s args H=some (v,H')→Bs H H'
theorem flat_bs {g:List Value→Option Value} :SpecBs (flatSpec g):=by
 intro args H v H' h
 unfold flatSpec at h
 (repeat' split at h)<;>first|(cases h;done)|(simp only [Option.some.injEq,Prod.mk.injEq]at h;obtain⟨_,rfl⟩:=h;exact⟨rfl,rfl⟩)|(obtain⟨u,_,e⟩:=Option.map_eq_some_iff.1 h;simp only [Prod.mk.injEq]at e;obtain⟨_,rfl⟩:=e;exact⟨rfl,rfl⟩)
theorem contains_bs:SpecBs specContains:=by
 intro args H v H' h
 unfold specContains at h
 (repeat' split at h)<;>first|(cases h;done)|(simp only [Option.some.injEq,Prod.mk.injEq]at h;obtain⟨_,rfl⟩:=h;exact⟨rfl,rfl⟩)|(obtain⟨u,_,e⟩:=Option.map_eq_some_iff.1 h;simp only [Prod.mk.injEq]at e;obtain⟨_,rfl⟩:=e;exact⟨rfl,rfl⟩)
theorem index_bs:SpecBs specIndexA:=by
 intro args H v H' h
 unfold specIndexA at h
 (repeat' split at h)<;>first|(cases h;done)|(simp only [Option.some.injEq,Prod.mk.injEq]at h;obtain⟨_,rfl⟩:=h;exact⟨rfl,rfl⟩)
theorem split_bs:SpecBs specSplit:=by
 intro args H v H' h
 unfold specSplit at h
 (repeat' split at h)<;>first|(cases h;done)|(simp only [Option.some.injEq,Prod.mk.injEq]at h;obtain⟨_,rfl⟩:=h;exact⟨rfl,rfl⟩)|(obtain⟨u,_,e⟩:=Option.map_eq_some_iff.1 h;simp only [Prod.mk.injEq]at e;obtain⟨_,rfl⟩:=e;exact⟨rfl,rfl⟩)
theorem join_bs:SpecBs specJoin:=by
 intro args H v H' h
 unfold specJoin at h
 (repeat' split at h)<;>first|(cases h;done)|(simp only [Option.some.injEq,Prod.mk.injEq]at h;obtain⟨_,rfl⟩:=h;exact⟨rfl,rfl⟩)|(obtain⟨u,_,e⟩:=Option.map_eq_some_iff.1 h;simp only [Prod.mk.injEq]at e;obtain⟨_,rfl⟩:=e;exact⟨rfl,rfl⟩)
theorem itoa_bs:SpecBs specItoa:=by
 intro args H v H' h
 unfold specItoa at h
 (repeat' split at h)<;>first|(cases h;done)|(simp only [Option.some.injEq,Prod.mk.injEq]at h;obtain⟨_,rfl⟩:=h;exact⟨rfl,rfl⟩)|(obtain⟨u,_,e⟩:=Option.map_eq_some_iff.1 h;simp only [Prod.mk.injEq]at e;obtain⟨_,rfl⟩:=e;exact⟨rfl,rfl⟩)
theorem copy_bs:SpecBs specCopy:=by
 intro args H v H' h
 unfold specCopy at h
 (repeat' split at h)<;>first|(cases h;done)|(simp only [Option.some.injEq,Prod.mk.injEq]at h;obtain⟨_,rfl⟩:=h;exact⟨rfl,rfl⟩)|(obtain⟨u,_,e⟩:=Option.map_eq_some_iff.1 h;simp only [Prod.mk.injEq]at e;obtain⟨_,rfl⟩:=e;exact⟨rfl,rfl⟩)
theorem bstr_bs:SpecBs specBStr:=by
 intro args H v H' h
 unfold specBStr at h
 (repeat' split at h)<;>first|(cases h;done)|(simp only [Option.some.injEq,Prod.mk.injEq]at h;obtain⟨_,rfl⟩:=h;exact⟨rfl,rfl⟩)|(obtain⟨u,_,e⟩:=Option.map_eq_some_iff.1 h;simp only [Prod.mk.injEq]at e;obtain⟨_,rfl⟩:=e;exact⟨rfl,rfl⟩)
theorem fields_bs:SpecBs specFields:=by
 intro args H v H' h
 unfold specFields at h
 (repeat' split at h)<;>first|(cases h;done)|(simp only [Option.some.injEq,Prod.mk.injEq]at h;obtain⟨_,rfl⟩:=h;exact⟨rfl,rfl⟩)|(obtain⟨u,_,e⟩:=Option.map_eq_some_iff.1 h;simp only [Prod.mk.injEq]at e;obtain⟨_,rfl⟩:=e;exact⟨rfl,rfl⟩)
theorem str_bs: ∀p∈specsStr,SpecBs p.2:=by
 intro p hp
 unfold specsStr at hp
 rcases List.mem_cons.1 hp with rfl|hp
 ·exact fields_bs
 rcases List.mem_cons.1 hp with rfl|hp
 ·exact flat_bs
 rcases List.mem_cons.1 hp with rfl|hp
 ·exact flat_bs
 rcases List.mem_cons.1 hp with rfl|hp
 ·exact flat_bs
 rcases List.mem_cons.1 hp with rfl|hp
 ·exact contains_bs
 rcases List.mem_cons.1 hp with rfl|hp
 ·exact split_bs
 rcases List.mem_cons.1 hp with rfl|hp
 ·exact join_bs
 rcases List.mem_cons.1 hp with rfl|hp
 ·exact itoa_bs
 rcases List.mem_cons.1 hp with rfl|hp
 ·exact copy_bs
 rcases List.mem_cons.1 hp with rfl|hp
 ·exact bstr_bs
 rcases List.mem_cons.1 hp with rfl|hp
 ·exact flat_bs
 rcases List.mem_cons.1 hp with rfl|hp
 ·exact flat_bs
 rcases List.mem_cons.1 hp with rfl|hp
 ·exact flat_bs
 rcases List.mem_cons.1 hp with rfl|hp
 ·exact flat_bs
 rcases List.mem_cons.1 hp with rfl|hp
 ·exact flat_bs
 rcases List.mem_cons.1 hp with rfl|hp
 ·exact index_bs
 cases hp
theorem ext_bs {f:FuncId} {args:List Value} {H H':LH} {v:Value} (h:LC Tryz.prog EJ f args H=some (v,H')):Bs H H':=
 LC_bs (fun f s hs args H v H' hr=>by
  have hs:((specsStr).find? (fun p=>p.1==f)).map (·.2)=some s:=hs
  obtain⟨p,hp,rfl⟩:=Option.map_eq_some_iff.1 hs
  exact str_bs p (List.mem_of_find?_eq_some hp) args H v H' hr) h
theorem lapp_bs {P:Program} {t:TypeId} {x v:Value} {src:Option (Nat×List Value)} {H H':LH} (h:lapp P t x src H=some (v,H')):Bs H H':=by
 unfold lapp at h
 (repeat' split at h)<;>first|(cases h;done)|exact appM_bs h|(simp only [Option.some.injEq,Prod.mk.injEq]at h;obtain⟨_,rfl⟩:=h;exact⟨rfl,rfl⟩)
theorem MaxL.bs {H H':LH} (h:MaxL H) (hb:Bs H H'):MaxL H':=⟨by rw [hb.2];exact h.1,by rw [hb.1];exact h.2⟩
theorem Tab10.bs {H H':LH} (h:Tab10 H) (hb:Bs H H'):Tab10 H':=⟨by rw [hb.2];exact h.1,by rw [hb.1];exact h.2⟩
theorem Tab.bs {H H':LH} (h:Tab H) (hb:Bs H H'):Tab H':=⟨by rw [hb.2];exact h.1,by rw [hb.1];exact h.2⟩
end Go.Proofs.YteeiipildjgdbaaGreatDoor
namespace Go.Proofs.YteeiipildjgdbaaGreatDoor.Sc
open Go.Lg Go.Tg
structure OutT (H:LH) (v:Value) (H':LH) (xs:List (List UInt8)):Prop where
 row:TRow H' v xs
 le:H.le H'
section
variable {H:LH} {p q v:Value} {e f:Tg.Sc.Ev} {xs:List (List UInt8)} {l:List Tg.Hd.Hdr} {s:List UInt8}
theorem OutT.trunc {H':LH} (h:OutT H v H' xs): ∃H2,Lg.trunc H (v,H')=(v,H2)∧OutT H v H2 xs:=by
 rcases trunc_or v H H' with e2|⟨e2,hf,_⟩
 ·exact⟨H',e2,h⟩
 ·refine⟨H,e2,?_,le_refl⟩
  rcases h.row with h1|⟨k,o,c,B,rfl,_⟩
  ·exact .inl h1
  ·simp [flatB,flat1B,atomB]at hf
theorem le_trans {H H1 H2:LH} (h:H.le H1) (k:H1.le H2):H.le H2:=⟨Nat.le_trans h.1 k.1,fun l hl=>by rw [k.2 l (Nat.lt_of_lt_of_le hl h.1),h.2 l hl]⟩
theorem bs1s:lbuildSlice Tryz.prog 25 1 [(0,str s)] H=some (sl H.n 1 1,H.new ⟨[str s],9,true⟩):=lbs_dense (z:=str []) Tryz.underlying25 (by kernel_rfl) (by kernel_rfl) rfl (by simp) rfl (by decide) rfl
theorem join_new {n:Nat} (hn:xs.length=n) (h0:n≠0) (hN:n≤1000) (hl:(Tg.Sc.wl xs).length≤9000000):LC Tryz.prog EJ 79 [sl H.n n n] (H.new ⟨xs.map str,9,true⟩)=some (str (Tg.Sc.wl xs),H.new ⟨xs.map str,9,true⟩):=by
 subst hn
 exact join_cl (TRow.new (Nat.le_refl _)) (fun e=>h0 (by rw [e];rfl)) (by omega) hl
theorem wl_len: ∀ {l:List (List UInt8)} {m:Nat},(∀w∈l,w.length≤m)→(Tg.Sc.wl l).length≤l.length*(m+1)
 | [],m,_=>by simp [Tg.Sc.wl]
 | [w],m,h=>by have:=h w (by simp);unfold Tg.Sc.wl;simp;omega
 |w::v::l,m,h=>by
  have ih:=wl_len (l:=v::l) (m:=m) (fun x hx=>h x (by simp [hx]))
  have:=h w (by simp)
  unfold Tg.Sc.wl
  simp only [List.length_append,List.length_cons]at ih⊢
  rw [Nat.add_mul _ 1]
  omega
theorem scitoa {n:Int} (h1: -9223372036854775808≤n) (h2:n≤9223372036854775807) (ht:Tab10 H):LC Tryz.prog EJ 23 [.int .i64 n] H=some (str (Lib.itoa n),H):=itoa_cl h1 h2 ht
theorem heads_ex {id st:Int} (hr:HRow H p l) (hl:l.length≤90000) (hs: ∀h∈l,h.1.length≤300000∧h.2.length≤300000) (hw:s.length≤1000) (i0: -9223372036854775808≤id) (i1:id≤9223372036854775807) (t0: -9223372036854775808≤st) (t1:st≤9223372036854775807) (ht:Tab10 H):
  ∃v H',LC Tryz.prog EJ 78 [str s,.int .i64 id,.int .i64 st,p] H=some (v,H')∧OutT H v H' (Tg.Sc.headsL s id st l):=by
 have key: ∃r,LC Tryz.prog EJ 78 [str s,.int .i64 id,.int .i64 st,p] H=some (Lg.trunc H r)∧OutT H r.1 r.2 (Tg.Sc.headsL s id st l):=by
  refine LC_runs (P:=Tryz.prog) (E:=EJ) (f:=78) rfl Tryz.func78 rfl (by kernel_rfl) ?_
  have e1:=scitoa i0 i1 ht
  have e2:=scitoa t0 t1 ht
  have e3:=scitoa (n:=(l.length:Int)) (by omega) (by omega) ht
  have n1:=Tg.Sc.itoa_short i0 i1
  have n2:=Tg.Sc.itoa_short t0 t1
  have n3:=Tg.Sc.itoa_short (n:=(l.length:Int)) (by omega) (by omega)
  unfold Tg.Sc.headsL
  generalize Lib.itoa id=x1 at*
  generalize Lib.itoa st=x2 at*
  generalize Lib.itoa (l.length:Int)=x3 at*
  have hj:=join_new (H:=H) (xs:= [s,x1,x2,x3]) (n:=4) rfl (by decide) (by decide) (by
   have:=wl_len (l:= [s,x1,x2,x3]) (m:=1000) (by simp;omega)
   simp at this;omega)
  simp only [List.map_cons,List.map_nil]at hj
  generalize Tg.Sc.wl [s,x1,x2,x3]=f at*
  simp [e1,e2,e3,hr.len,hj]
  refine loop_ind (fun(i:Nat) fr' H'=> ∃w,fr' 9=w∧fr' 23=p∧fr' 24=.int .i64 l.length∧fr' 25=.int .i64 i∧i≤l.length∧RowN H.n H' 9 1 w (f::(l.take i).map Tg.Sc.hline).length ((f::(l.take i).map Tg.Sc.hline).map str)∧H.n≤H'.n∧ ∀k,k<H.n→H'.get k=H.get k) (fun i=>l.length-i) 0 ⟨sl (H.n+1) 1 1,by simp,by simp,by simp,by simp,Nat.zero_le _,?_,by simp;omega,fun k hk=>by rw [get_new_ne (by simp;omega),get_new_ne (by omega)]⟩ ?_
  ·refine⟨by simp,.inr ⟨H.n+1,1,[],by simp,by omega,by simp,?_,by simp,by simp⟩⟩
   rw [show H.n+1=(H.new ⟨[str s,str x1,str x2,str x3],9,true⟩).n from rfl,get_new];simp
  rintro i fr' H' ⟨w,f9,f23,f24,f25,hi,hrow,hn,hk⟩ ih
  subst f9
  have hr':=hr.keep hn hk
  by_cases hlt:i<l.length
  ·have q:=eq_true (show(i:Int)<(l.length:Int) by omega)
   have hw1:IntKind.i64.wrap ((i:Int)+1)=((i+1:Nat):Int):=by rw [wrapI (by omega) (by omega)];omega
   obtain⟨k,o,g1,g2,g3⟩:=hr'.at hlt
   obtain⟨g0,g4,g5⟩:=g3 H' rfl
   have hm:=hs l[i] (List.getElem_mem hlt)
   have hes:=fun H:LH=>escape_cl (H:=H) (s:=l[i].2) hm.2
   have hnew:f::(l.take (i+1)).map Tg.Sc.hline=(f::(l.take i).map Tg.Sc.hline)++ [Tg.Sc.hline l[i]]:=by
    rw [List.take_succ_eq_append_getElem hlt,List.map_append];rfl
   have hrow1:RowN H.n (H'.new (hb l[i])) 9 1 (fr' 9) (f::(l.take i).map Tg.Sc.hline).length ((f::(l.take i).map Tg.Sc.hline).map str):=hrow.keep (Nat.le_succ _) (fun j _ _ hj=>get_new_ne (by omega))
   obtain⟨v',H2,a1,a2,a3,a4⟩:=out_app (x:=Tg.Sc.hline l[i]) hrow1 (by rw [n_new];omega) (by simp;omega)
   rw [←hnew]at a2
   have hfin:=fun fr2 (g9:fr2 9=v') (g23:fr2 23=p) (g24:fr2 24=.int .i64 l.length) (g25:fr2 25=.int .i64 ((i+1:Nat):Int))=>ih (i+1) fr2 H2 (by omega) ⟨v',g9,g23,g24,g25,by omega,a2,a3,fun k hk2=>by rw [a4 k hk2,get_new_ne (by omega),hk k hk2]⟩
   unfold Tg.Sc.hline at a1
   have hel:=Tg.Sc.esc_len l[i].2
   clear ih hrow hrow1 a2 hnew
   generalize l[i]=a at*
   have qa:=eq_true (show 1+a.1.length≤9223372036854775807 by omega)
   have qb:=eq_true (show a.1.length+1+2≤9223372036854775807 by omega)
   have qc:=eq_true (show a.1.length+2+1+(Tg.Sc.esc a.2).length≤9223372036854775807 by omega)
   simp [f23,f24,f25,q,g1,g0,hes,bs1s,a1,qa,qb,qc]
   refine hfin _ ?_ ?_ ?_ ?_
   all_goals simp [f23,f24,hw1]
  ·have q:=eq_false (show¬(i:Int)<(l.length:Int) by omega)
   rw [List.take_of_length_le (by omega)]at hrow
   simp [f23,f24,f25,q]
   exact⟨TRow.of_own hrow,hn,hk⟩
 obtain⟨r,e,ho⟩:=key
 obtain⟨H2,e2,ho2⟩:=ho.trunc
 exact⟨r.1,H2,by rw [e,←e2],ho2⟩
theorem shown_ex (hg:Tg.Sc.good e=true) (hr:HRow H p e.hdrs) (hz:EvZ e) (ht:Tab H) (h10:Tab10 H): ∃v H',LC Tryz.prog EJ 72 [evv e p] H=some (v,H')∧OutT H v H' (Tg.Sc.shown e):=by
 obtain⟨pa,pn,pc,rfl⟩:=hr.slice
 have key: ∃r,LC Tryz.prog EJ 72 [evv e (.slice pa pn pc)] H=some (Lg.trunc H r)∧OutT H r.1 r.2 (Tg.Sc.shown e):=by
  refine LC_runs (P:=Tryz.prog) (E:=EJ) (f:=72) rfl Tryz.func72 rfl (by kernel_rfl) ?_
  obtain⟨kind,id,url,src,mode,media,status,hdrs,body⟩:=e
  have hk:kind=1∨kind=2∨kind=3∨kind=4∨kind=5∨kind=6:=by
   unfold Tg.Sc.good at hg
   simp only [Bool.and_eq_true,decide_eq_true_eq]at hg
   have:=hg.1.1.1.1
   omega
  obtain⟨z1,z2,z3,z4,z5,z6,z7,z8,z9,z10,z11,z12⟩:=hz
  simp only at z1 z2 z3 z4 z5 z6 z7 z8 z9 z10 z11 z12 hr
  clear hg
  have n1:=Tg.Sc.itoa_short z7 z8
  have hes1:=fun H:LH=>escape_cl (H:=H) (s:=url) z1
  have hes2:=fun H:LH=>escape_cl (H:=H) (s:=src) z2
  have hes3:=fun H:LH=>escape_cl (H:=H) (s:=body) z4
  have l1:=Tg.Sc.esc_len url
  have l2:=Tg.Sc.esc_len src
  have l3:=Tg.Sc.esc_len body
  obtain⟨Hb,hHb⟩: ∃Hb,Hb=H.new ⟨[.int .i64 kind,.int .i64 id,str url,str src,str mode,.int .i64 media,.int .i64 status,.slice pa pn pc,str body],83,true⟩:=⟨_,rfl⟩
  have hbn:Hb.n=H.n+1:=by rw [hHb];rfl
  have hbb:Bs H Hb:=by rw [hHb];exact⟨rfl,rfl⟩
  have hble:H.le Hb:=by rw [hHb];exact le_refl.new
  have gb:Hb.get H.n=some ⟨[.int .i64 kind,.int .i64 id,str url,str src,str mode,.int .i64 media,.int .i64 status,.slice pa pn pc,str body],83,true⟩:=by rw [hHb];exact get_new
  have hrb:HRow Hb (.slice pa pn pc) hdrs:=by rw [hHb];exact hr.new1
  have hwd:=words_l (H:=Hb) (ht.bs hbb)
  unfold Tg.Sc.words at hwd
  simp only [List.map_cons,List.map_nil]at hwd
  obtain⟨Hc,hHc⟩: ∃Hc,Hc=Hb.new ⟨[str Tg.Sc.kwAsk,str Tg.Sc.kwHead,str Tg.Sc.kwChunk,str Tg.Sc.kwEnd,str Tg.Sc.kwAbort,str Tg.Sc.kwReset],9,true⟩:=⟨_,rfl⟩
  rw [←hHc,hbn]at hwd
  have hcn:Hc.n=H.n+1+1:=by rw [hHc,n_new,hbn]
  have gw:Hc.get (H.n+1)=some ⟨[str Tg.Sc.kwAsk,str Tg.Sc.kwHead,str Tg.Sc.kwChunk,str Tg.Sc.kwEnd,str Tg.Sc.kwAbort,str Tg.Sc.kwReset],9,true⟩:=by rw [hHc,←hbn];exact get_new
  have gc:Hc.get H.n=some ⟨[.int .i64 kind,.int .i64 id,str url,str src,str mode,.int .i64 media,.int .i64 status,.slice pa pn pc,str body],83,true⟩:=by rw [hHc,get_new_ne (by omega)];exact gb
  have hbc:Bs H Hc:=by rw [hHc];exact hbb
  have hcle:H.le Hc:=by rw [hHc];exact hble.new
  have hrc:HRow Hc (.slice pa pn pc) hdrs:=by rw [hHc];exact hrb.new1
  have t1:=scitoa (H:=Hc) z7 z8 (h10.bs hbc)
  have t2:=scitoa (H:=Hc) z9 z10 (h10.bs hbc)
  have n2:=Tg.Sc.itoa_short z9 z10
  obtain⟨v2,H2,e2,o2⟩:=heads_ex (s:=Tg.Sc.kwHead) (id:=id) (st:=status) hrc z5 z6 (by decide) z7 z8 z11 z12 (h10.bs hbc)
  unfold Tg.Sc.shown
  simp only
  generalize Lib.itoa id=x1 at*
  generalize Lib.itoa media=x2 at*
  have hj2:=fun(w:List UInt8) (hw:w.length≤100)=>join_new (H:=Hc) (xs:= [w,x1]) (n:=2) rfl (by decide) (by decide) (by
   have:=wl_len (l:= [w,x1]) (m:=100) (by simp;omega)
   simp at this;omega)
  simp only [List.map_cons,List.map_nil]at hj2
  have fin: ∀(s:List UInt8) (G:LH),H.le G→OutT H (sl G.n 1 1) (G.new ⟨[str s],9,true⟩) [s]:=fun s G hG=>⟨TRow.new (H:=G) (xs:= [s]) (c:=1) (Nat.le_refl _),hG.new⟩
  rcases hk with rfl|rfl|rfl|rfl|rfl|rfl
  ·have hj:=join_new (H:=Hc) (xs:= [Tg.Sc.kwAsk,x1,x2,mode,Tg.Sc.esc url,Tg.Sc.esc src]) (n:=6) rfl (by decide) (by decide) (by
    have:=wl_len (l:= [Tg.Sc.kwAsk,x1,x2,mode,Tg.Sc.esc url,Tg.Sc.esc src]) (m:=1000000) (by simp [Tg.Sc.kwAsk];omega)
    simp at this;omega)
   simp only [List.map_cons,List.map_nil]at hj
   simp [←hHb,hwd,gb,gw,gc,t1,t2,hes1,hes2,hj,bs1s]
   exact fin _ (Hc.new _) hcle.new
  ·simp [←hHb,hwd,gb,gw,gc,t1,e2]
   exact⟨o2.row,le_trans hcle o2.le⟩
  ·have hj:=join_new (H:=Hc) (xs:= [Tg.Sc.kwChunk,x1,Tg.Sc.esc body]) (n:=3) rfl (by decide) (by decide) (by
    have:=wl_len (l:= [Tg.Sc.kwChunk,x1,Tg.Sc.esc body]) (m:=1000000) (by simp [Tg.Sc.kwChunk];omega)
    simp at this;omega)
   simp only [List.map_cons,List.map_nil]at hj
   simp [←hHb,hwd,gb,gw,gc,t1,hes3,hj,bs1s]
   exact fin _ (Hc.new _) hcle.new
  ·have hj:=hj2 Tg.Sc.kwEnd (by decide)
   simp [←hHb,hwd,gb,gw,gc,t1,hj,bs1s]
   exact fin _ (Hc.new _) hcle.new
  ·have hj:=hj2 Tg.Sc.kwAbort (by decide)
   simp [←hHb,hwd,gb,gw,gc,t1,hj,bs1s]
   exact fin _ (Hc.new _) hcle.new
  ·simp [←hHb,hwd,gb,gw,gc,t1,bs1s]
   exact fin _ Hc hcle
 obtain⟨r,e,ho⟩:=key
 obtain⟨H2,e2,ho2⟩:=ho.trunc
 exact⟨r.1,H2,by rw [e,←e2],ho2⟩
end
abbrev suv (c:Tg.Sc.Setup):Value:=.agg #[.bool c.legacy,.int .i64 c.look,.int .i64 c.depth,.int .i64 c.table,.int .i64 c.valid]
section
variable {H:LH} {c:Tg.Sc.Setup} {l:Bool} {k n:Int}
theorem ogood_cl:LC Tryz.prog EJ 73 [.agg #[.bool l,.int .i64 k,.int .i64 n]] H=some (.bool (decide (1445≤k)&&decide (k≤1048576)&&decide (0≤n)&&decide (n≤200)),H):=by
 refine LC_pure rfl Tryz.func73 rfl (by kernel_rfl) rfl ?_
 by_cases h1:1445≤k
 ·by_cases h2:k≤1048576
  ·by_cases h3:0≤n
   ·by_cases h4:n≤200<;>simp [h1,h2,h3,h4]
   ·simp [h1,h2,h3]
  ·simp [h1,h2]
 ·simp [h1]
theorem fineS_b (c:Tg.Sc.Setup):Tg.Sc.fineS c=((decide (1445≤c.look)&&decide (c.look≤1048576)&&decide (0≤c.depth)&&decide (c.depth≤200))&&decide (1≤c.table)&&decide (c.table≤1000)&&decide (0≤c.valid)&&decide (c.valid≤10000)):=by
 unfold Tg.Sc.fineS
 simp only [Bool.and_assoc]
theorem fgood_cl:LC Tryz.prog EJ 51 [suv c] H=some (.bool (Tg.Sc.fineS c),H):=by
 refine LC_pure rfl Tryz.func51 rfl (by kernel_rfl) rfl ?_
 have ho:=fun H:LH=>ogood_cl (H:=H) (l:=c.legacy) (k:=c.look) (n:=c.depth)
 rw [fineS_b]
 generalize (decide (1445≤c.look)&&decide (c.look≤1048576)&&decide (0≤c.depth)&&decide (c.depth≤200))=b at*
 cases b with
 |false=>simp [ho]
 |true=>
  by_cases h1:1≤c.table
  ·by_cases h2:c.table≤1000
   ·by_cases h3:0≤c.valid
    ·by_cases h4:c.valid≤10000<;>simp [ho,h1,h2,h3,h4]
    ·simp [ho,h1,h2,h3]
   ·simp [ho,h1,h2]
  ·simp [ho,h1]
theorem fGood_cl:LC Tryz.prog EJ 90 [suv c] H=some (.bool (Tg.Sc.fineS c),H):=by
 refine LC_pure rfl Tryz.func90 rfl (by kernel_rfl) rfl ?_
 have ho:=fun H:LH=>fgood_cl (H:=H) (c:=c)
 simp [ho]
theorem setup_cl (h10:Tab10 H):LC Tryz.prog EJ 65 [suv c] H=some (str (if Tg.Sc.fineS c=true then Tg.Sc.setupT c else []),H):=by
 refine LC_pure rfl Tryz.func65 rfl (by kernel_rfl) rfl ?_
 have ho:=fun H:LH=>fGood_cl (H:=H) (c:=c)
 cases hb:Tg.Sc.fineS c with
 |false=>rw [hb]at ho;simp [ho]
 |true=>
  rw [hb]at ho
  have h':=hb
  rw [fineS_b]at h'
  simp only [Bool.and_eq_true,decide_eq_true_eq]at h'
  obtain⟨⟨⟨⟨⟨⟨⟨a1,a2⟩,a3⟩,a4⟩,a5⟩,a6⟩,a7⟩,a8⟩:=h'
  clear hb
  obtain⟨legacy,look,depth,table,valid⟩:=c
  simp only at a1 a2 a3 a4 a5 a6 a7 a8
  have t1:=fun(H:LH) (h:Tab10 H)=>scitoa (H:=H) (n:=look) (by omega) (by omega) h
  have t2:=fun(H:LH) (h:Tab10 H)=>scitoa (H:=H) (n:=depth) (by omega) (by omega) h
  have t3:=fun(H:LH) (h:Tab10 H)=>scitoa (H:=H) (n:=table) (by omega) (by omega) h
  have t4:=fun(H:LH) (h:Tab10 H)=>scitoa (H:=H) (n:=valid) (by omega) (by omega) h
  have n1:=Tg.Sc.itoa_short (n:=look) (by omega) (by omega)
  have n2:=Tg.Sc.itoa_short (n:=depth) (by omega) (by omega)
  have n3:=Tg.Sc.itoa_short (n:=table) (by omega) (by omega)
  have n4:=Tg.Sc.itoa_short (n:=valid) (by omega) (by omega)
  unfold Tg.Sc.setupT
  simp only
  generalize Lib.itoa look=x1 at*
  generalize Lib.itoa depth=x2 at*
  generalize Lib.itoa table=x3 at*
  generalize Lib.itoa valid=x4 at*
  have hj: ∀(H:LH) (w:List UInt8),w.length≤100→LC Tryz.prog EJ 79 [sl H.n 6 6] (H.new ⟨[str Tg.Sc.kwSetup,str w,str x1,str x2,str x3,str x4],9,true⟩)=some (str (Tg.Sc.wl [Tg.Sc.kwSetup,w,x1,x2,x3,x4]),H.new ⟨[str Tg.Sc.kwSetup,str w,str x1,str x2,str x3,str x4],9,true⟩):=fun H w hw=>
   join_new (H:=H) (xs:= [Tg.Sc.kwSetup,w,x1,x2,x3,x4]) (n:=6) rfl (by decide) (by decide) (by
    have:=wl_len (l:= [Tg.Sc.kwSetup,w,x1,x2,x3,x4]) (m:=100) (by simp [Tg.Sc.kwSetup];omega)
    simp at this;omega)
  obtain⟨Hb,hHb⟩: ∃Hb,Hb=H.new ⟨[.bool legacy,.int .i64 look,.int .i64 depth,.int .i64 table,.int .i64 valid],64,true⟩:=⟨_,rfl⟩
  have hbn:Hb.n=H.n+1:=by rw [hHb];rfl
  have hx:Tab10 Hb:=h10.bs (by rw [hHb];exact⟨rfl,rfl⟩)
  have gb:Hb.get H.n=some ⟨[.bool legacy,.int .i64 look,.int .i64 depth,.int .i64 table,.int .i64 valid],64,true⟩:=by rw [hHb];exact get_new
  have hle:H.le Hb:=by rw [hHb];exact le_refl.new
  have hj:=hj Hb
  cases legacy with
  |false=>
   have hj:=hj Tg.Sc.kwOrb (by decide)
   simp only [Bool.false_eq_true,if_false]
   generalize Tg.Sc.wl [Tg.Sc.kwSetup,Tg.Sc.kwOrb,x1,x2,x3,x4]=f at*
   unfold Tg.Sc.kwSetup Tg.Sc.kwOrb at hj
   simp [←hHb,gb,ho,t1 _ hx,t2 _ hx,t3 _ hx,t4 _ hx,hj]
   exact hle.new
  |true=>
   have hj:=hj Tg.Sc.kwLegacy (by decide)
   simp only [if_true]
   generalize Tg.Sc.wl [Tg.Sc.kwSetup,Tg.Sc.kwLegacy,x1,x2,x3,x4]=f at*
   unfold Tg.Sc.kwSetup Tg.Sc.kwLegacy at hj
   simp [←hHb,gb,ho,t1 _ hx,t2 _ hx,t3 _ hx,t4 _ hx,hj]
   exact hle.new
end
def Rd (H:LH) (pr:Nat) (xs:List (List UInt8)):Prop:=
 ∃v,H.get pr=some ⟨[v],110,true⟩∧pr<H.n∧((v=.slice none 0 0∧xs= [])∨ ∃(k o c:Nat) (B:LB),v=.slice (some ⟨k,o,none⟩) xs.length c∧H.get k=some B∧k<pr∧(B.cells.drop o).take xs.length=xs.map str∧xs.length≤c)
structure But (pr:Nat) (H H':LH):Prop where
 n:H'.n=H.n
 old: ∀k,k<H.n→k≠pr→H'.get k=H.get k
 bs:Bs H H'
section
variable {H H':LH} {pr:Nat} {xs:List (List UInt8)} {s:List UInt8}
theorem But.refl:But pr H H:=⟨rfl,fun _ _ _=>rfl,Bs.refl _⟩
theorem But.trans {H1 H2:LH} (h:But pr H H1) (k:But pr H1 H2):But pr H H2:=⟨k.n.trans h.n,fun j hj hne=>by rw [k.old j (by rw [h.n];exact hj) hne,h.old j hj hne],h.bs.trans k.bs⟩
theorem Rd.back (h:Rd H' pr xs) (hle:H.le H') (hp:pr<H.n):Rd H pr xs:=by
 obtain⟨v,h1,h2,h3⟩:=h
 refine⟨v,by rw [←hle.2 pr hp];exact h1,hp,?_⟩
 rcases h3 with h3|⟨k,o,c,B,e,h4,h5,h6,h7⟩
 ·exact .inl h3
 ·exact .inr ⟨k,o,c,B,e,by rw [←hle.2 k (by omega)];exact h4,h5,h6,h7⟩
theorem Rd.keep (h:Rd H pr xs) (hn:H.n≤H'.n) (hk: ∀k,k<H.n→H'.get k=H.get k):Rd H' pr xs:=by
 obtain⟨v,h1,h2,h3⟩:=h
 refine⟨v,by rw [hk pr h2];exact h1,by omega,?_⟩
 rcases h3 with h3|⟨k,o,c,B,e,h4,h5,h6,h7⟩
 ·exact .inl h3
 ·exact .inr ⟨k,o,c,B,e,by rw [hk k (by omega)];exact h4,h5,h6,h7⟩
theorem Rd.lt (h:Rd H pr xs):pr<H.n:=by obtain⟨_,_,h,_⟩:=h;exact h
theorem word_ex (h:Rd H pr xs): ∃H',LC Tryz.prog EJ 63 [ptr pr 0] H=some (str (xs.headD []),H')∧Rd H' pr xs.tail∧But pr H H':=by
 have hp:=h.lt
 have key: ∃r,LC Tryz.prog EJ 63 [ptr pr 0] H=some (Lg.trunc H r)∧r.1=str (xs.headD [])∧Rd r.2 pr xs.tail∧But pr H r.2:=by
  refine LC_runs (P:=Tryz.prog) (E:=EJ) (f:=63) rfl Tryz.func63 rfl (by kernel_rfl) ?_
  have h0:=h
  obtain⟨v,h1,h2,h3⟩:=h0
  rcases h3 with⟨rfl,rfl⟩|⟨k,o,c,B,rfl,h4,h5,h6,h7⟩
  ·simp [h1]
   exact⟨h,But.refl⟩
  ·cases xs with
   |nil=>
    simp [h1]
    exact⟨h,But.refl⟩
   |cons x xs=>
    have hc:B.cells[o]?=some (str x):=by
     have:=congrArg (fun z=>z[0]?) h6
     simp only [List.getElem?_take,List.length_cons,Nat.zero_lt_succ,if_true,List.getElem?_drop,Nat.add_zero,List.map_cons,List.getElem?_cons_zero]at this
     exact this
    obtain⟨hlt,hc⟩:=List.getElem?_eq_some_iff.mp hc
    have q0:=eq_true (show(0:Int)<(xs.length:Int)+1 by omega)
    have q1:=eq_true (show(1:Int)≤(xs.length:Int)+1 by omega)
    have q2:=eq_false (show¬(xs.length:Int)+1=0 by omega)
    have hne:k≠pr:=by omega
    simp [h1,h4,hlt,hc,q0,q1,q2]
    refine⟨⟨.slice (some ⟨k,o+1,none⟩) xs.length (c-1),by simp,by simpa using h2,.inr ⟨k,o+1,c-1,B,rfl,by rw [get_set_ne hne];exact h4,h5,?_,by simp at h7;omega⟩⟩,⟨by simp,fun j hj hne=>get_set_ne hne,⟨rfl,rfl⟩⟩⟩
    have:=congrArg List.tail h6
    simp only [List.map_cons,List.tail_cons,List.length_cons]at this
    rw [←this,←List.drop_drop]
    cases hd:B.cells.drop o with
    |nil=>rw [hd]at h6;simp at h6
    |cons y l=>simp
 obtain⟨⟨v,H2⟩,e,hv,hr,hb⟩:=key
 simp only at hv hr hb
 subst hv
 rcases trunc_or (str (xs.headD [])) H H2 with e2|⟨e2,_,hle⟩
 ·exact⟨H2,by rw [e,e2],hr,hb⟩
 ·exact⟨H,by rw [e,e2],hr.back hle hp,But.refl⟩
theorem num_ex (h:Rd H pr xs) (hs:(xs.headD []).length≤300000): ∃H',LC Tryz.prog EJ 64 [ptr pr 0] H=some (.int .i64 (Tg.Sc.numP (xs.headD []):Nat),H')∧Rd H' pr xs.tail∧But pr H H':=by
 obtain⟨H1,e1,r1,b1⟩:=word_ex h
 have hlt:=h.lt
 generalize xs.headD []=x at*
 have hp:=dparse_cl (H:=H1) (s:=x) (by omega)
 have hn:(if x= []∨x.all Tg.Nu.isD=false then(0:Int)else if 9007199254740991<Tg.Nu.dv 0 x then 0 else(Tg.Nu.dv 0 x:Nat))=(Tg.Sc.numP x:Nat):=by
  unfold Tg.Sc.numP
  show _=(((if x= []∨x.all Tg.Nu.isD=false then 0 else if 9007199254740991<Tg.Nu.dv 0 x then 0 else Tg.Nu.dv 0 x:Nat)):Int)
  split
  ·rfl
  ·split<;>rfl
 rw [hn]at hp
 generalize (if x= []∨x.all Tg.Nu.isD=false then(2:Int)else if 9007199254740991<Tg.Nu.dv 0 x then 9 else 0)=er at hp
 have key: ∃r,LC Tryz.prog EJ 64 [ptr pr 0] H=some (Lg.trunc H r)∧r=(.int .i64 (Tg.Sc.numP x:Nat),H1):=by
  refine LC_runs (P:=Tryz.prog) (E:=EJ) (f:=64) rfl Tryz.func64 rfl (by kernel_rfl) ?_
  simp [e1,hp]
 obtain⟨r,e,rfl⟩:=key
 rcases trunc_or (.int .i64 (Tg.Sc.numP x:Nat)) H H1 with e2|⟨e2,_,hle⟩
 ·exact⟨H1,by rw [e,e2],r1,b1⟩
 ·exact⟨H,by rw [e,e2],r1.back hle hlt,But.refl⟩
theorem bytes_ex (h:Rd H pr xs) (hs:(xs.headD []).length≤300000): ∃H',LC Tryz.prog EJ 92 [ptr pr 0] H=some (str (Tg.Sc.plainT (xs.headD [])),H')∧Rd H' pr xs.tail∧But pr H H':=by
 obtain⟨H1,e1,r1,b1⟩:=word_ex h
 have hlt:=h.lt
 generalize xs.headD []=x at*
 have hp:=plain_cl (H:=H1) (s:=x) (by omega)
 have key: ∃r,LC Tryz.prog EJ 92 [ptr pr 0] H=some (Lg.trunc H r)∧r=(str (Tg.Sc.plainT x),H1):=by
  refine LC_runs (P:=Tryz.prog) (E:=EJ) (f:=92) rfl Tryz.func92 rfl (by kernel_rfl) ?_
  simp [e1,hp]
 obtain⟨r,e,rfl⟩:=key
 rcases trunc_or (str (Tg.Sc.plainT x)) H H1 with e2|⟨e2,_,hle⟩
 ·exact⟨H1,by rw [e,e2],r1,b1⟩
 ·exact⟨H,by rw [e,e2],r1.back hle hlt,But.refl⟩
theorem split_c (c:UInt8) (hs:s.length≤5000000) (hm:MaxL H):LC Tryz.prog EJ 35 [str s,str [c]] H=some (sl H.n (Tg.Sc.cutAt c s).length (Tg.Sc.cutAt c s).length,H.new ⟨(Tg.Sc.cutAt c s).map str,9,true⟩):=by
 obtain⟨e1,e2,e3,e4⟩:=Tg.Sc.cut_rows c s
 have hsp:=split_l (H:=H) (s:=s) (p:= [c]) (by omega) (by simp) hm (by unfold maxLen;omega) e3
 rw [e1,←e2]at hsp
 exact hsp
theorem Rd.set {l:Nat} {b:LB} (h:Rd H pr xs) (hl:pr<l):Rd (H.set l b) pr xs:=by
 obtain⟨v,h1,h2,h3⟩:=h
 refine⟨v,by rw [get_set_ne (by omega)];exact h1,h2,?_⟩
 rcases h3 with h3|⟨k,o,c,B,e,h4,h5,h6,h7⟩
 ·exact .inl h3
 ·exact .inr ⟨k,o,c,B,e,by rw [get_set_ne (by omega)];exact h4,h5,h6,h7⟩
theorem drop_head (ws:List (List UInt8)) (i:Nat):(ws.drop i).headD []=ws.getD i []:=by
 rw [List.getD_eq_getElem?_getD]
 cases h:ws[i]? with
 |none=>rw [List.drop_of_length_le (List.getElem?_eq_none_iff.mp h)];rfl
 |some x=>
  obtain⟨hlt,hx⟩:=List.getElem?_eq_some_iff.mp h
  rw [List.drop_eq_getElem_cons hlt,hx];rfl
theorem drop_tail (ws:List (List UInt8)) (i:Nat):(ws.drop i).tail=ws.drop (i+1):=by
 rw [List.tail_drop]
variable {ws:List (List UInt8)} {i:Nat}
theorem word_at (h:Rd H pr (ws.drop i)): ∃H',LC Tryz.prog EJ 63 [ptr pr 0] H=some (str (ws.getD i []),H')∧Rd H' pr (ws.drop (i+1))∧But pr H H':=by
 have:=word_ex h
 rwa [drop_head,drop_tail]at this
theorem num_at (h:Rd H pr (ws.drop i)) (hs:(ws.getD i []).length≤300000): ∃H',LC Tryz.prog EJ 64 [ptr pr 0] H=some (.int .i64 (Tg.Sc.numP (ws.getD i []):Nat),H')∧Rd H' pr (ws.drop (i+1))∧But pr H H':=by
 have:=num_ex h (by rw [drop_head];exact hs)
 rwa [drop_head,drop_tail]at this
theorem bytes_at (h:Rd H pr (ws.drop i)) (hs:(ws.getD i []).length≤300000): ∃H',LC Tryz.prog EJ 92 [ptr pr 0] H=some (str (Tg.Sc.plainT (ws.getD i [])),H')∧Rd H' pr (ws.drop (i+1))∧But pr H H':=by
 have:=bytes_ex h (by rw [drop_head];exact hs)
 rwa [drop_head,drop_tail]at this
theorem getD_len (hs:s.length≤300000) (i:Nat):((Tg.Sc.cutAt 32 s).getD i []).length≤300000:=by
 rw [List.getD_eq_getElem?_getD]
 cases h:(Tg.Sc.cutAt 32 s)[i]? with
 |none=>simp
 |some x=>
  have:=Tg.Sc.cut_len 32 s x (List.mem_of_getElem? h)
  show x.length≤_
  omega
abbrev ev0c (k id:Int):List Value:= [.int .i64 k,.int .i64 id,str [],str [],str [],.int .i64 0,.int .i64 0,.slice none 0 0,str []]
theorem event_cl (hs:s.length≤300000) (hm:MaxL H) (ht:Tab H):LC Tryz.prog EJ 66 [str s] H=some (.tuple #[evv (Tg.Sc.eventP s).1 (.slice none 0 0),.int .i64 ((Tg.Sc.eventP s).2:Nat)],H):=by
 obtain⟨H1,hH1⟩: ∃H1,H1=H.new ⟨ev0c 0 0,83,true⟩:=⟨_,rfl⟩
 have n1:H1.n=H.n+1:=by rw [hH1];rfl
 have b1:Bs H H1:=by rw [hH1];exact⟨rfl,rfl⟩
 have le1:H.le H1:=by rw [hH1];exact le_refl.new
 have hsp:=split_c (H:=H1) 32 (s:=s) (by omega) (hm.bs b1)
 have hwl:=getD_len hs
 have hep:Tg.Sc.eventP s=(let ws:=Tg.Sc.cutAt 32 s
  let w:=fun i=>ws.getD i []
  let k:=Tg.Sc.kindP (w 0) Tg.Sc.words 0
  let e:Tg.Sc.Ev:= { Tg.Sc.ev0 with kind:=k,id:=Tg.Sc.numP (w 1) }
  if k=1 then({ e with media:=Tg.Sc.numP (w 2),mode:=w 3,url:=Tg.Sc.plainT (w 4),src:=Tg.Sc.plainT (w 5) },0)
  else if k=2 then({ e with status:=Tg.Sc.numP (w 2) },Tg.Sc.numP (w 3))
  else if k=3 then({ e with body:=Tg.Sc.plainT (w 2) },0)
  else(e,0)):=rfl
 generalize hws:Tg.Sc.cutAt 32 s=ws at*
 generalize Tg.Sc.eventP s=ep at*
 subst hep
 obtain⟨w,hw⟩: ∃w:Nat→List UInt8,w=fun i=>ws.getD i []:=⟨_,rfl⟩
 have wa: ∀ {G:LH} {pr i:Nat},Rd G pr (ws.drop i)→ ∃H',LC Tryz.prog EJ 63 [ptr pr 0] G=some (str (w i),H')∧Rd H' pr (ws.drop (i+1))∧But pr G H':=fun {G pr i} h=>by rw [hw];exact word_at h
 have na: ∀ {G:LH} {pr i:Nat},Rd G pr (ws.drop i)→ ∃H',LC Tryz.prog EJ 64 [ptr pr 0] G=some (.int .i64 (Tg.Sc.numP (w i):Nat),H')∧Rd H' pr (ws.drop (i+1))∧But pr G H':=fun {G pr i} h=>by rw [hw];exact num_at h (hwl i)
 have ba: ∀ {G:LH} {pr i:Nat},Rd G pr (ws.drop i)→ ∃H',LC Tryz.prog EJ 92 [ptr pr 0] G=some (str (Tg.Sc.plainT (w i)),H')∧Rd H' pr (ws.drop (i+1))∧But pr G H':=fun {G pr i} h=>by rw [hw];exact bytes_at h (hwl i)
 have hwi: ∀i,ws.getD i []=w i:=fun i=>by rw [hw]
 simp only [hwi]
 clear hw hwi
 obtain⟨H2,hH2⟩: ∃H2,H2=H1.new ⟨ws.map str,9,true⟩:=⟨_,rfl⟩
 have n2:H2.n=H.n+1+1:=by rw [hH2,n_new,n1]
 have g2:H2.get (H.n+1)=some ⟨ws.map str,9,true⟩:=by rw [hH2,←n1];exact get_new
 obtain⟨H3,hH3⟩: ∃H3,H3=H2.new ⟨[.slice (some ⟨H.n+1,0,none⟩) ws.length ws.length],110,true⟩:=⟨_,rfl⟩
 have n3:H3.n=H.n+1+1+1:=by rw [hH3,n_new,n2]
 have r3:Rd H3 (H.n+1+1) (ws.drop 0):=by
  refine⟨_,by rw [hH3,←n2];exact get_new,by omega,.inr ⟨H.n+1,0,ws.length,_,rfl,by rw [hH3,get_new_ne (by omega)];exact g2,by omega,?_,Nat.le_refl _⟩⟩
  rw [List.drop_zero,List.take_of_length_le (by simp)];rfl
 have b3:Bs H H3:=by rw [hH3,hH2];exact b1
 have le3:H.le H3:=by rw [hH3,hH2];exact le1.new.new
 have hwd:=words_l (H:=H3) (ht.bs b3)
 obtain⟨H4,hH4⟩: ∃H4,H4=H3.new ⟨Tg.Sc.words.map str,9,true⟩:=⟨_,rfl⟩
 have n4:H4.n=H.n+1+1+1+1:=by rw [hH4,n_new,n3]
 have r4:Rd H4 (H.n+1+1) (ws.drop 0):=r3.keep (by omega) (fun k hk=>by rw [hH4,get_new_ne (by omega)])
 have le4:H.le H4:=by rw [hH4];exact le3.new
 have b4:Bs H H4:=by rw [hH4];exact b3
 obtain⟨H5,e5,r5,u5⟩:=wa r4
 have hrow:TRow H5 (sl H3.n 6 6) Tg.Sc.words:=.inr ⟨H3.n,0,6,⟨Tg.Sc.words.map str,9,true⟩,rfl,by rw [u5.old H3.n (by omega) (by omega),hH4];exact get_new,by rw [u5.n];omega,by rw [List.drop_zero,List.take_of_length_le (by simp)],Nat.le_refl _,rfl⟩
 have hix:=sindex_l (s:=w 0) hrow (by decide)
 rw [n3]at hix
 obtain⟨H6,e6,r6,u6⟩:=na r5
 have u46:=u5.trans u6
 have n6:H6.n=H.n+1+1+1+1:=by rw [u46.n,n4]
 have le6: ∀k,k<H.n→H6.get k=H.get k:=fun k hk=>by rw [u46.old k (by omega) (by omega),le4.2 k hk]
 have g6:H6.get H.n=some ⟨ev0c 0 0,83,true⟩:=by
  rw [u46.old H.n (by omega) (by omega),hH4,get_new_ne (by omega),hH3,get_new_ne (by omega),hH2,get_new_ne (by omega),hH1];exact get_new
 have hfw:=Tg.Sc.find_words (w 0)
 have hkl:=Tg.Sc.kind_le (w 0) Tg.Sc.words 0
 have hwk:IntKind.i64.wrap (Tg.Sc.find (w 0) Tg.Sc.words 0+1)=((Tg.Sc.kindP (w 0) Tg.Sc.words 0:Nat):Int):=by
  rw [show Tg.Sc.words.length=6 from rfl]at hkl
  rw [hfw,wrapI (by omega) (by omega)]
 rw [←hH2]at hsp
 rw [←hH4]at hwd
 generalize hk:Tg.Sc.kindP (w 0) Tg.Sc.words 0=k at*
 generalize Tg.Sc.numP (w 1)=m1 at*
 obtain⟨H7,hH7⟩: ∃H7,H7=H6.new ⟨ev0c k m1,83,true⟩:=⟨_,rfl⟩
 have n7:H7.n=H.n+1+1+1+1+1:=by rw [hH7,n_new,n6]
 have g7:H7.get (H.n+1+1+1+1)=some ⟨ev0c k m1,83,true⟩:=by rw [hH7,←n6];exact get_new
 have r7:Rd H7 (H.n+1+1) (ws.drop 2):=r6.keep (by omega) (fun j hj=>by rw [hH7,get_new_ne (by omega)])
 have g7':H7.get H.n=some ⟨ev0c 0 0,83,true⟩:=by rw [hH7,get_new_ne (by omega)];exact g6
 have le7: ∀j,j<H.n→H7.get j=H.get j:=fun j hj=>by rw [hH7,get_new_ne (by omega)];exact le6 j hj
 have d1:=eq_false (show¬H.n=H.n+1+1+1+1 by omega)
 have lef: ∀(G:LH),G.n=H7.n→(∀j,j<H.n→G.get j=H7.get j)→ ∀(l:Nat) (b:LB),H.n≤l→H.le (G.set l b):=fun G hn hg l b hl=>⟨by show H.n≤G.n;omega,fun j hj=>by rw [get_set_ne (by omega),hg j hj,le7 j hj]⟩
 have leg: ∀(G:LH),G.n=H7.n→(∀j,j<H.n→G.get j=H7.get j)→H.le G:=fun G hn hg=>⟨by omega,fun j hj=>by rw [hg j hj,le7 j hj]⟩
 refine LC_pure rfl Tryz.func66 rfl (by kernel_rfl) rfl ?_
 by_cases k1:k=1
 ·subst k1
  simp only [if_true]
  replace hH7:H7=H6.new ⟨ev0c 1 m1,83,true⟩:=hH7
  replace hwk:IntKind.i64.wrap (Tg.Sc.find (w 0) Tg.Sc.words 0+1)=1:=hwk
  obtain⟨H8,e8,r8,u8⟩:=na r7
  obtain⟨H9,e9,r9,u9⟩:=wa r8
  have u79:=u8.trans u9
  have g9:H9.get (H.n+1+1+1+1)=some ⟨ev0c 1 m1,83,true⟩:=by rw [u79.old _ (by omega) (by omega)];exact g7
  obtain⟨H10,hH10⟩: ∃H10,H10=H9.set (H.n+1+1+1+1) ⟨[.int .i64 1,.int .i64 m1,str [],str [],str (w 3),.int .i64 (Tg.Sc.numP (w 2):Nat),.int .i64 0,.slice none 0 0,str []],83,true⟩:=⟨_,rfl⟩
  have g10:H10.get (H.n+1+1+1+1)=some ⟨[.int .i64 1,.int .i64 m1,str [],str [],str (w 3),.int .i64 (Tg.Sc.numP (w 2):Nat),.int .i64 0,.slice none 0 0,str []],83,true⟩:=by rw [hH10];exact get_set
  obtain⟨H11,e11,r11,u11⟩:=ba (G:=H10) (by rw [hH10];exact r9.set (by omega))
  have n10:H10.n=H7.n:=by rw [hH10];exact u79.n
  have g11:=(u11.old (H.n+1+1+1+1) (by omega) (by omega)).trans g10
  obtain⟨H12,hH12⟩: ∃H12,H12=H11.set (H.n+1+1+1+1) ⟨[.int .i64 1,.int .i64 m1,str (Tg.Sc.plainT (w 4)),str [],str (w 3),.int .i64 (Tg.Sc.numP (w 2):Nat),.int .i64 0,.slice none 0 0,str []],83,true⟩:=⟨_,rfl⟩
  have g12:H12.get (H.n+1+1+1+1)=some ⟨[.int .i64 1,.int .i64 m1,str (Tg.Sc.plainT (w 4)),str [],str (w 3),.int .i64 (Tg.Sc.numP (w 2):Nat),.int .i64 0,.slice none 0 0,str []],83,true⟩:=by rw [hH12];exact get_set
  obtain⟨H13,e13,r13,u13⟩:=ba (G:=H12) (by rw [hH12];exact r11.set (by omega))
  have n12:H12.n=H7.n:=by rw [hH12];exact u11.n.trans n10
  have g13:=(u13.old (H.n+1+1+1+1) (by omega) (by omega)).trans g12
  have o13: ∀j,j<H.n+1→H13.get j=H7.get j:=fun j hj=>by
   rw [u13.old j (by omega) (by omega),hH12,get_set_ne (by omega),u11.old j (by omega) (by omega),hH10,get_set_ne (by omega),u79.old j (by omega) (by omega)]
  have g13':=(o13 H.n (by omega)).trans g7'
  simp [Tg.Sc.ev0,←hH1,hsp,←hH3,n1,n2,n3,n6,hwd,e5,hix,hwk,e6,←hH7,g7,g7',e8,e9,g9,←hH10,e11,g11,←hH12,e13,g13,g13',d1]
  exact lef H13 (u13.n.trans n12) (fun j hj=>o13 j (by omega)) _ _ (by omega)
 by_cases k2:k=2
 ·subst k2
  simp only [if_true,if_neg (show¬(2:Nat)=1 by decide)]
  replace hH7:H7=H6.new ⟨ev0c 2 m1,83,true⟩:=hH7
  replace hwk:IntKind.i64.wrap (Tg.Sc.find (w 0) Tg.Sc.words 0+1)=2:=hwk
  obtain⟨H8,e8,r8,u8⟩:=na r7
  have g8:H8.get (H.n+1+1+1+1)=some ⟨ev0c 2 m1,83,true⟩:=by rw [u8.old _ (by omega) (by omega)];exact g7
  obtain⟨H9,hH9⟩: ∃H9,H9=H8.set (H.n+1+1+1+1) ⟨[.int .i64 2,.int .i64 m1,str [],str [],str [],.int .i64 0,.int .i64 (Tg.Sc.numP (w 2):Nat),.slice none 0 0,str []],83,true⟩:=⟨_,rfl⟩
  have g9:H9.get (H.n+1+1+1+1)=some ⟨[.int .i64 2,.int .i64 m1,str [],str [],str [],.int .i64 0,.int .i64 (Tg.Sc.numP (w 2):Nat),.slice none 0 0,str []],83,true⟩:=by rw [hH9];exact get_set
  obtain⟨H10,e10,r10,u10⟩:=na (G:=H9) (by rw [hH9];exact r8.set (by omega))
  have n9:H9.n=H7.n:=by rw [hH9];exact u8.n
  have g10:=(u10.old (H.n+1+1+1+1) (by omega) (by omega)).trans g9
  have o10: ∀j,j<H.n+1→H10.get j=H7.get j:=fun j hj=>by
   rw [u10.old j (by omega) (by omega),hH9,get_set_ne (by omega),u8.old j (by omega) (by omega)]
  have g10':=(o10 H.n (by omega)).trans g7'
  simp [Tg.Sc.ev0,←hH1,hsp,←hH3,n1,n2,n3,n6,hwd,e5,hix,hwk,e6,←hH7,g7,g7',e8,g8,←hH9,g9,e10,g10,g10',d1]
  exact leg H10 (u10.n.trans n9) (fun j hj=>o10 j (by omega))
 by_cases k3:k=3
 ·subst k3
  simp only [if_true,if_neg (show¬(3:Nat)=1 by decide),if_neg (show¬(3:Nat)=2 by decide)]
  replace hH7:H7=H6.new ⟨ev0c 3 m1,83,true⟩:=hH7
  replace hwk:IntKind.i64.wrap (Tg.Sc.find (w 0) Tg.Sc.words 0+1)=3:=hwk
  obtain⟨H8,e8,r8,u8⟩:=ba r7
  have g8:H8.get (H.n+1+1+1+1)=some ⟨ev0c 3 m1,83,true⟩:=by rw [u8.old _ (by omega) (by omega)];exact g7
  have o8: ∀j,j<H.n+1→H8.get j=H7.get j:=fun j hj=>u8.old j (by omega) (by omega)
  have g8':=(o8 H.n (by omega)).trans g7'
  simp [Tg.Sc.ev0,←hH1,hsp,←hH3,n1,n2,n3,n6,hwd,e5,hix,hwk,e6,←hH7,g7,g7',e8,g8,g8',d1]
  exact lef H8 u8.n (fun j hj=>o8 j (by omega)) _ _ (by omega)
 have q1:=eq_false (show¬((k:Nat):Int)=1 by omega)
 have q2:=eq_false (show¬((k:Nat):Int)=2 by omega)
 have q3:=eq_false (show¬((k:Nat):Int)=3 by omega)
 simp only [if_neg k1,if_neg k2,if_neg k3]
 simp [Tg.Sc.ev0,←hH1,hsp,←hH3,n1,n2,n3,n6,hwd,e5,hix,hwk,e6,←hH7,g7,g7',d1,q1,q2,q3,k1,k2,k3]
 exact leg H7 rfl (fun j hj=>rfl)
end
end Go.Proofs.YteeiipildjgdbaaGreatDoor.Sc
namespace Tg.Sc
open Go
theorem cutCB_cons {b:UInt8} {r:List UInt8} (h:([58,32]:List UInt8).isPrefixOf (b::r)=false):cutCB (b::r)=(b::(cutCB r).1,(cutCB r).2):=by
 rw [cutCB]
 intro r' e1 e2
 subst e1 e2
 simp [List.isPrefixOf]at h
theorem cutCB_idx: ∀s:List UInt8,(Lib.index s [58,32]= -1∧cutCB s=(s,[]))∨ ∃i:Nat,Lib.index s [58,32]=i∧i+2≤s.length∧cutCB s=(s.take i,s.drop (i+2))
 | []=>.inl ⟨rfl,rfl⟩
 |b::r=>by
  cases hp:([58,32]:List UInt8).isPrefixOf (b::r)with
  |true=>
   right
   obtain⟨c,r2,rfl⟩: ∃c r2,r=c::r2:=by
    cases r with
    |nil=>simp [List.isPrefixOf]at hp
    |cons c r2=>exact⟨c,r2,rfl⟩
   have hb:b=58∧c=32:=by
    simp [List.isPrefixOf]at hp
    exact⟨hp.1.symm,hp.2.symm⟩
   obtain⟨rfl,rfl⟩:=hb
   refine⟨0,?_,by simp,rfl⟩
   unfold Lib.index
   rw [if_pos hp];rfl
  |false=>
   have hc:=cutCB_cons hp
   rcases cutCB_idx r with⟨h1,h2⟩|⟨i,h1,h2,h3⟩
   ·left
    refine⟨?_,by rw [hc,h2]⟩
    unfold Lib.index
    rw [if_neg (by rw [hp];decide),h1];rfl
   ·right
    refine⟨i+1,?_,by simp only [List.length_cons];omega,by rw [hc,h3];rfl⟩
    unfold Lib.index
    rw [if_neg (by rw [hp];decide),h1,if_neg (by simp only [beq_iff_eq];omega)]
    omega
theorem noBar_trim (s:List UInt8):Lib.trimPrefix s [124]=noBar s:=by
 unfold Lib.trimPrefix Lib.hasPrefix noBar
 cases s with
 |nil=>rfl
 |cons b r=>
  by_cases hb:b=124
  ·subst hb;simp [List.isPrefixOf]
  ·have:([124]:List UInt8).isPrefixOf (b::r)=false:=by
    simp [List.isPrefixOf];exact fun e=>hb e.symm
   rw [this]
   simp only [Bool.false_eq_true,if_false]
   split
   ·rename_i e;injection e with e _;exact absurd e hb
   ·rfl
theorem cutCB_len (s:List UInt8):(cutCB s).1.length≤s.length∧(cutCB s).2.length≤s.length:=by
 rcases cutCB_idx s with⟨_,h⟩|⟨i,_,h1,h⟩
 ·rw [h];simp
 ·rw [h];simp;omega
theorem noBar_len (s:List UInt8):(noBar s).length≤s.length:=by
 unfold noBar
 split
 ·simp
 ·exact Nat.le_refl _
theorem hdrP_len (s:List UInt8):(hdrP s).1.length≤s.length∧(hdrP s).2.length≤s.length:=by
 have h1:=noBar_len s
 have h2:=cutCB_len (noBar s)
 have h3:=plain_len (cutCB (noBar s)).2
 unfold hdrP
 simp only
 omega
end Tg.Sc
namespace Go.Proofs.YteeiipildjgdbaaGreatDoor.Sc
open Go.Lg Go.Tg
section
variable {H:LH} {s:List UInt8} {v:Value} {xs r:List (List UInt8)}
theorem cut2_cl (hs:s.length≤300000) (hm:MaxL H): ∃b,LC Tryz.prog EJ 67 [str s,str [58,32]] H=some (.tuple #[str (Tg.Sc.cutCB s).1,str (Tg.Sc.cutCB s).2,.bool b],H):=by
 have hi:=indexM_l (H:=H) (s:=s) (a:=58) (b:=32) (p:= []) (by omega) hm
 have key: ∃b,LC Tryz.prog EJ 93 [str s,str [58,32]] H=some (.tuple #[str (Tg.Sc.cutCB s).1,str (Tg.Sc.cutCB s).2,.bool b],H):=by
  rcases Tg.Sc.cutCB_idx s with⟨h1,h2⟩|⟨i,h1,h2,h3⟩
  ·refine⟨false,?_⟩
   refine LC_pure rfl Tryz.func93 rfl (by kernel_rfl) rfl ?_
   rw [h1]at hi
   simp [hi,h2]
  ·refine⟨true,?_⟩
   refine LC_pure rfl Tryz.func93 rfl (by kernel_rfl) rfl ?_
   rw [h1]at hi
   have hw:IntKind.i64.wrap ((i:Int)+2)=(i:Int)+2:=wrapI (by omega) (by omega)
   have e1:((i:Int)+2).toNat=i+2:=by omega
   have f1:=eq_true (show(i:Int)≤s.length by omega)
   have f2:=eq_true (show(i:Int)+2≤s.length by omega)
   have f3:=eq_true (show(0:Int)≤(i:Int)+2 by omega)
   simp [hi,h3,hw,e1,f1,f2,f3]
 obtain⟨b,hk⟩:=key
 refine⟨b,?_⟩
 refine LC_pure rfl Tryz.func67 rfl (by kernel_rfl) rfl ?_
 simp [hk]
theorem TRow.part (h:TRow H v xs) {a b:Option Value} {p q:Nat} (ha:lbd 0 a=some p) (hb:lbd xs.length b=some q) (hpq:p≤q) (hq:q≤xs.length): ∃v',lpart Tryz.prog 25 v a b=some v'∧TRow H v' ((xs.take q).drop p):=by
 have hsz:sz Tryz.prog 9=some 1:=by kernel_rfl
 rcases h with⟨rfl,rfl⟩|⟨k,o,c,B,rfl,h2,h3,h4,h5,h6⟩
 ·have hq0:q=0:=by simpa using hq
  have hp0:p=0:=by omega
  subst hq0 hp0
  refine⟨.slice none 0 0,?_,.inl ⟨rfl,by simp⟩⟩
  have hb':lbd 0 b=some 0:=hb
  simp [lpart,Tryz.underlying25,ha,hb',hsz]
 ·refine⟨_,lpart_row0 Tryz.underlying25 hsz ha hb ⟨hpq,hq⟩,.inr ⟨k,o+p*1,c-p,B,by simp [List.length_take,Nat.min_eq_left hq],h2,h3,?_,by simp [List.length_take,Nat.min_eq_left hq];omega,h6⟩⟩
  rw [Nat.mul_one,←List.drop_drop,List.length_drop,List.length_take,Nat.min_eq_left hq,List.map_drop,List.map_take,←h4,List.take_take,Nat.min_eq_left hq,List.drop_take]
def OutN (H:LH) (x:Option (Tg.Sc.Ev×Nat)) (r:Value×LH):Prop:=
 ∃e p n ok,r.1=.tuple #[evv e p,.int .i64 n,.bool ok]∧cellB p=true∧H.le r.2∧match x with
  |some (e',k)=>e=e'∧n=(k:Int)+1∧ok=true∧HOwn H.n r.2 p e'.hdrs
  |none=>ok=false
theorem OutN.trunc {x:Option (Tg.Sc.Ev×Nat)} {u:Value} {H':LH} (h:OutN H x (u,H')): ∃H2,Lg.trunc H (u,H')=(u,H2)∧OutN H x (u,H2):=by
 rcases trunc_or u H H' with e2|⟨e2,hf,_⟩
 ·exact⟨H',e2,h⟩
 ·refine⟨H,e2,?_⟩
  obtain⟨e,p,n,ok,h1,hc,h2,h3⟩:=h
  refine⟨e,p,n,ok,h1,hc,le_refl,?_⟩
  cases x with
  |none=>exact h3
  |some y=>
   obtain⟨e',k⟩:=y
   obtain⟨g1,g2,g3,g4⟩:=h3
   refine⟨g1,g2,g3,g4.1,?_⟩
   rcases g4.2 with g5|⟨k,c,rest,rfl,_⟩
   ·exact .inl g5
   ·simp only at h1
    rw [h1]at hf
    simp [flatB,flat1B,atomB]at hf
theorem ev_bounds (hs:s.length≤300000):(Tg.Sc.eventP s).2≤9007199254740991∧EvZ { (Tg.Sc.eventP s).1 with hdrs:= [] } :=by
 have hn: ∀w:List UInt8,Tg.Sc.numP w≤9007199254740991:=fun w=>by
  unfold Tg.Sc.numP
  split
  ·omega
  ·split<;>omega
 have hw:=getD_len hs
 have hp: ∀i,(Tg.Sc.plainT ((Tg.Sc.cutAt 32 s).getD i [])).length≤300000:=fun i=>Nat.le_trans (Tg.Sc.plain_len _) (hw i)
 have hh: ∀h∈([]:List Tg.Hd.Hdr),h.1.length≤300000∧h.2.length≤300000:=fun h hm=>by cases hm
 have q: ∀w,(-9223372036854775808:Int)≤(Tg.Sc.numP w:Nat)∧((Tg.Sc.numP w:Nat):Int)≤9223372036854775807:=fun w=>by have:=hn w;omega
 unfold Tg.Sc.eventP Tg.Sc.ev0
 simp only
 split
 ·exact⟨by simp,⟨hp _,hp _,hw _,by simp,by simp,hh,(q _).1,(q _).2,(q _).1,(q _).2,by simp,by simp⟩⟩
 ·split
  ·exact⟨hn _,⟨by simp,by simp,by simp,by simp,by simp,hh,(q _).1,(q _).2,by simp,by simp,(q _).1,(q _).2⟩⟩
  ·split
   ·exact⟨by simp,⟨by simp,by simp,by simp,hp _,by simp,hh,(q _).1,(q _).2,by simp,by simp,by simp,by simp⟩⟩
   ·exact⟨by simp,⟨by simp,by simp,by simp,by simp,by simp,hh,(q _).1,(q _).2,by simp,by simp,by simp,by simp⟩⟩
theorem hown_weak {N N':Nat} {w:Value} {l:List Tg.Hd.Hdr} (h:HOwn N H w l) (hn:N'≤N):HOwn N' H w l:=by
 refine⟨h.1,?_⟩
 rcases h.2 with h2|⟨k,c,rest,rfl,g1,g2,g3,g4,g5⟩
 ·exact .inl h2
 ·exact .inr ⟨k,c,rest,rfl,by omega,g2,g3,g4,g5⟩
theorem next_ex (hv:TRow H v (s::r)) (hs: ∀x∈s::r,x.length≤300000) (hl:r.length≤80000) (hm:MaxL H) (ht:Tab H) (h10:Tab10 H):
  ∃u,LC Tryz.prog EJ 50 [v] H=some u∧OutN H (Tg.Sc.nextP s r) u:=by
 have key: ∃u,LC Tryz.prog EJ 50 [v] H=some (Lg.trunc H u)∧OutN H (Tg.Sc.nextP s r) u:=by
  refine LC_runs (P:=Tryz.prog) (E:=EJ) (f:=50) rfl Tryz.func50 rfl (by kernel_rfl) ?_
  have hs0:=hs s (by simp)
  obtain⟨hnb,hz0⟩:=ev_bounds hs0
  unfold Tg.Sc.nextP
  generalize hep:Tg.Sc.eventP s=ep at*
  obtain⟨e0,n⟩:=ep
  simp only at hnb hz0⊢
  obtain⟨H1,hH1⟩: ∃H1,H1=H.new ⟨ev0c 0 0,83,true⟩:=⟨_,rfl⟩
  have n1:H1.n=H.n+1:=by rw [hH1];rfl
  have b1:Bs H H1:=by rw [hH1];exact⟨rfl,rfl⟩
  have le1:H.le H1:=by rw [hH1];exact le_refl.new
  have g1:H1.get H.n=some ⟨ev0c 0 0,83,true⟩:=by rw [hH1];exact get_new
  have hv1:TRow H1 v (s::r):=hv.keep le1.1 le1.2
  obtain⟨k0,o0,a1,_,a3⟩:=hv1.at (i:=0) (by simp)
  have a4:=a3 H1 rfl
  simp only [List.getElem_cons_zero]at a4
  have a1: ∀G:LH,lixa Tryz.prog 25 v (.int .i64 0) G=some (ptr k0 o0,G):=a1
  have hev:=event_cl (H:=H1) hs0 (hm.bs b1) (ht.bs b1)
  rw [hep]at hev
  obtain⟨H2,hH2⟩: ∃H2,H2=H1.new (evc e0 (.slice none 0 0)):=⟨_,rfl⟩
  have n2:H2.n=H.n+1+1:=by rw [hH2,n_new,n1]
  have le2:H.le H2:=by rw [hH2];exact le1.new
  have b2:Bs H H2:=by rw [hH2];exact b1
  have g2:H2.get (H.n+1)=some (evc e0 (.slice none 0 0)):=by rw [hH2,←n1];exact get_new
  have g2':H2.get H.n=some ⟨ev0c 0 0,83,true⟩:=by rw [hH2,get_new_ne (by omega)];exact g1
  have hlen:=fun G:LH=>hv1.len (H':=G)
  simp only [List.length_cons]at hlen
  have hw1:IntKind.i64.wrap ((n:Int)+1)=((n+1:Nat):Int):=by rw [wrapI (by omega) (by omega)];omega
  by_cases hbig:r.length<n
  ·rw [if_pos hbig]
   have q0:=eq_true (show((r.length+1:Nat):Int)≤(n:Int) by omega)
   have q1:=eq_true (show(r.length:Int)+1≤(n:Int) by omega)
   simp [←hH1,a1,a4,hev,←hH2,n1,g2,g2',hlen,q0,q1]
   exact⟨e0,.slice none 0 0,0,false,rfl,by simp,(le_set_iff (Nat.le_refl _)).2 le2,rfl⟩
  rw [if_neg hbig]
  have q0:=eq_false (show¬(r.length:Int)+1≤(n:Int) by omega)
  have hwn:IntKind.i64.wrap ((n:Int)+1)=(n:Int)+1:=wrapI (by omega) (by omega)
  obtain⟨v',hp1,hv'⟩:=hv.part (a:=some (.int .i64 1)) (b:=some (.int .i64 ((n:Int)+1))) (p:=1) (q:=n+1) rfl (by
   show(if 0≤(n:Int)+1 then some ((n:Int)+1).toNat else none)=some (n+1)
   rw [if_pos (by omega)];congr 1) (by omega) (by simp;omega)
  rw [show((s::r).take (n+1)).drop 1=r.take n from rfl]at hv'
  obtain⟨ls,hls⟩: ∃ls,ls=r.take n:=⟨_,rfl⟩
  have hlsn:ls.length=n:=by rw [hls,List.length_take];omega
  have hlss: ∀x∈ls,x.length≤300000:=fun x hx=>hs x (by rw [hls]at hx;simp [List.mem_of_mem_take hx])
  rw [←hls]at hv'⊢
  have hvl:=fun G:LH=>hv'.len (H':=G)
  rw [hlsn]at hvl
  simp [←hH1,a1,a4,hev,←hH2,n1,g2,g2',hlen,q0,hwn,hp1,hvl]
  refine loop_ind (fun(i:Nat) fr' H'=> ∃w,fr' 0=v∧fr' 2=ptr H.n 0∧fr' 5=ptr (H.n+1) 0∧fr' 6=.int .i64 n∧fr' 29=v'∧fr' 30=.int .i64 n∧fr' 31=.int .i64 i∧i≤n∧H'.get (H.n+1)=some (evc e0 w)∧HOwn (H.n+1+1) H' w ((ls.take i).map Tg.Sc.hdrP)∧H.n+1+1≤H'.n∧H'.get H.n=some ⟨ev0c 0 0,83,true⟩∧(∀k,k<H.n→H'.get k=H.get k)∧Bs H H') (fun i=>n-i) 0 ⟨.slice none 0 0,by simp,by simp,by simp,by simp,by simp,by simp,by simp,Nat.zero_le _,g2,by simpa using(HOwn.nil (N:=H.n+1+1) (H:=H2)),by omega,g2',le2.2,b2⟩ ?_
  rintro i fr' H' ⟨w,f0,f2,f5,f6,f29,f30,f31,hi,ge,hrow,hn,gz,hk,hb⟩ ih
  have hvi:TRow H' v' ls:=hv'.keep (by omega) hk
  by_cases hlt:i<n
  ·have q:=eq_true (show(i:Int)<(n:Int) by omega)
   have hwi:IntKind.i64.wrap ((i:Int)+1)=((i+1:Nat):Int):=by rw [wrapI (by omega) (by omega)];omega
   obtain⟨k1,o1,c1,_,c3⟩:=hvi.at (i:=i) (by omega)
   have c4:=c3 H' rfl
   have hx:=hlss ls[i] (List.getElem_mem (by omega))
   have hnb:=Tg.Sc.noBar_trim ls[i]
   have hnl:=Tg.Sc.noBar_len ls[i]
   have hcl:=Tg.Sc.cutCB_len (Tg.Sc.noBar ls[i])
   obtain⟨bb,hcut⟩:=cut2_cl (H:=H') (s:=Tg.Sc.noBar ls[i]) (by omega) (hm.bs hb)
   have hpl:=fun H:LH=>plain_cl (H:=H) (s:=(Tg.Sc.cutCB (Tg.Sc.noBar ls[i])).2) (by omega)
   have hnew:(ls.take (i+1)).map Tg.Sc.hdrP=(ls.take i).map Tg.Sc.hdrP++ [((Tg.Sc.cutCB (Tg.Sc.noBar ls[i])).1,Tg.Sc.plainT (Tg.Sc.cutCB (Tg.Sc.noBar ls[i])).2)]:=by
    rw [List.take_succ_eq_append_getElem (by omega),List.map_append];rfl
   obtain⟨w2,H3,d1,d2,d3,d4,d5,d6⟩:=h_app hrow hn (by rw [List.length_map,List.length_take];omega) (Tg.Sc.cutCB (Tg.Sc.noBar ls[i])).1 (Tg.Sc.plainT (Tg.Sc.cutCB (Tg.Sc.noBar ls[i])).2)
   rw [←hnew]at d2
   have g3:H3.get (H.n+1)=some (evc e0 w):=by rw [d4 _ (by omega) (hrow.off_lt (by omega))];exact ge
   have hcw:cellB w2=true:=d2.cell
   have b3:Bs H H3:=hb.trans (Bs.trans (H1:=H'.new _) ⟨rfl,rfl⟩ (lapp_bs d1))
   have hfin:=fun fr2 (f0:fr2 0=v) (f2:fr2 2=ptr H.n 0) (f5:fr2 5=ptr (H.n+1) 0) (f6:fr2 6=.int .i64 n) (f29:fr2 29=v') (f30:fr2 30=.int .i64 n) (f31:fr2 31=.int .i64 ((i+1:Nat):Int))=>ih (i+1) fr2 (H3.set (H.n+1) (evc e0 w2)) (by omega) ⟨w2,f0,f2,f5,f6,f29,f30,f31,by omega,get_set,d2.keep (Nat.le_refl _) (fun k h1 _ _=>get_set_ne (by omega)),by show _≤H3.n;omega,by rw [get_set_ne (by omega),d4 _ (by omega) (hrow.off_lt (by omega))];exact gz,fun k hk2=>by rw [get_set_ne (by omega),d4 _ (by omega) (hrow.off_lt (by omega))];exact hk k hk2,b3⟩
   clear ih d2 hrow hnew
   generalize Tg.Sc.plainT (Tg.Sc.cutCB (Tg.Sc.noBar ls[i])).2=y2 at*
   generalize (Tg.Sc.cutCB (Tg.Sc.noBar ls[i])).2=y3 at*
   generalize (Tg.Sc.cutCB (Tg.Sc.noBar ls[i])).1=y1 at*
   generalize Tg.Sc.noBar ls[i]=y0 at*
   generalize ls[i]=x at*
   simp [f0,f2,f5,f6,f29,f30,f31,q,c1,c4,hnb,hcut,hpl,ge,bs1h,d1,g3,hcw]
   refine hfin _ ?_ ?_ ?_ ?_ ?_ ?_ ?_
   all_goals simp [f0,f2,f5,f6,f29,f30,hwi]
  ·have hin:i=n:=by omega
   subst hin
   have q:=eq_false (show¬(i:Int)<(i:Int) by omega)
   rw [List.take_of_length_le (by omega)]at hrow
   obtain⟨e',he'⟩: ∃e':Tg.Sc.Ev,e'= { e0 with hdrs:=ls.map Tg.Sc.hdrP } :=⟨_,rfl⟩
   rw [←he']
   have hh:e'.hdrs=ls.map Tg.Sc.hdrP:=by rw [he']
   have hz:EvZ e':=by
    rw [he']
    exact⟨hz0.url,hz0.src,hz0.mode,hz0.body,by rw [List.length_map];omega,fun h hm=>by
     obtain⟨x,hx,rfl⟩:=List.mem_map.mp hm
     have:=Tg.Sc.hdrP_len x
     have:=hlss x hx
     omega,hz0.id0,hz0.id1,hz0.me0,hz0.me1,hz0.st0,hz0.st1⟩
   have hev':evv e' w=.agg #[.int .i64 e0.kind,.int .i64 e0.id,str e0.url,str e0.src,str e0.mode,.int .i64 e0.media,.int .i64 e0.status,w,str e0.body]:=by rw [he']
   rw [←hh]at hrow
   have hr':=hrow.row
   have hgood:=good_cl hr' hz
   rw [hev']at hgood
   obtain⟨wa,wn,wc,rfl⟩:=hr'.slice
   have leH:H.le H':=⟨by omega,hk⟩
   cases hgd:Tg.Sc.good e' with
   |false=>
    rw [hgd]at hgood
    rw [if_neg (by simp)]
    simp [f0,f2,f5,f6,f29,f30,f31,q,ge,gz,hgood,hwn]
    exact⟨e',.slice wa wn wc,_,false,by rw [hev'],by simp,(le_set_iff (Nat.le_refl _)).2 leH,rfl⟩
   |true=>
    rw [hgd]at hgood
    obtain⟨v3,H3,e3,o3⟩:=shown_ex hgd hr' hz (ht.bs hb) (h10.bs hb)
    rw [hev']at e3
    obtain⟨v4,hp4,hv4⟩:=hv.part (a:=none) (b:=some (.int .i64 ((i:Int)+1))) (p:=0) (q:=i+1) rfl (by
     show(if 0≤(i:Int)+1 then some ((i:Int)+1).toNat else none)=some (i+1)
     rw [if_pos (by omega)];congr 1) (by omega) (by simp;omega)
    rw [List.drop_zero,List.take_succ_cons,←hls]at hv4
    have hle3:H.le H3:=le_trans leH o3.le
    have heq:=tequal_cl o3.row (hv4.keep hle3.1 hle3.2) (by
     have hgs:=hgd
     obtain⟨s9,r9,hl9⟩:=Tg.Sc.lined hgd
     have h9:=congrArg List.length hl9.hs
     rw [List.length_map,hh,List.length_map]at h9
     rw [hl9.sh,List.length_cons]
     omega)
    have g3:H3.get (H.n+1)=some (evc e0 (.slice wa wn wc)):=by rw [o3.le.2 _ (by omega)];exact ge
    have gz3:H3.get H.n=some ⟨ev0c 0 0,83,true⟩:=by rw [o3.le.2 _ (by omega)];exact gz
    simp [f0,f2,f5,f6,f29,f30,f31,q,ge,gz,hgood,hwn,e3,hp4,heq,g3,gz3]
    have hrf:HOwn H.n (H3.set H.n (evc e0 (.slice wa wn wc))) (.slice wa wn wc) e'.hdrs:=hown_weak (hrow.keep (by have:=o3.le.1;show H'.n≤H3.n;omega) (fun k h1 _ h2=>by rw [get_set_ne (by omega),o3.le.2 k h2])) (by omega)
    by_cases hsh:Tg.Sc.shown e'=s::ls
    ·rw [if_pos hsh,decide_eq_true hsh]
     exact⟨e',.slice wa wn wc,_,true,by rw [hev'],by simp,(le_set_iff (Nat.le_refl _)).2 hle3,rfl,rfl,rfl,hrf⟩
    ·rw [if_neg hsh,decide_eq_false hsh]
     exact⟨e',.slice wa wn wc,_,false,by rw [hev'],by simp,(le_set_iff (Nat.le_refl _)).2 hle3,rfl⟩
 obtain⟨⟨u,H'⟩,e,ho⟩:=key
 obtain⟨H2,e2,ho2⟩:=ho.trunc
 exact⟨(u,H2),by rw [e,e2],ho2⟩
end
section
variable {H:LH} {s:List UInt8}
abbrev setc (b:Bool) (k d t n:Int):List Value:= [.bool b,.int .i64 k,.int .i64 d,.int .i64 t,.int .i64 n]
theorem set_ok (s:List UInt8):(Tg.Sc.settings s).isSome=(decide (s≠ [])&&decide ((if Tg.Sc.fineS (Tg.Sc.setP s)=true then Tg.Sc.setupT (Tg.Sc.setP s)else [])=s)):=by
 unfold Tg.Sc.settings
 by_cases h0:s= []
 ·subst h0
  rw [if_neg]
  ·rfl
  ·rintro⟨_,h⟩
   revert h
   unfold Tg.Sc.setupT Tg.Sc.kwSetup
   simp [Tg.Sc.wl]
 ·by_cases h1:Tg.Sc.fineS (Tg.Sc.setP s)=true
  ·rw [if_pos h1]
   by_cases h2:Tg.Sc.setupT (Tg.Sc.setP s)=s
   ·rw [if_pos ⟨h1,h2⟩];simp [h0,h2]
   ·rw [if_neg (fun h=>h2 h.2)];simp [h0,h2]
  ·rw [if_neg (fun h=>h1 h.1),if_neg h1]
   simp [h0]
theorem set_fill {b k d:Value} :lfill Tryz.prog 64 [.bool false,.int .i64 0,.int .i64 0,.int .i64 0,.int .i64 0] [(0,.agg ⟨[b,k,d]⟩)]=some [b,k,d,.int .i64 0,.int .i64 0]:=by
 rw [lfill_agg (o:=0) (n:=3) (g:=true) (by kernel_rfl) rfl (by decide)]
 exact lfill_nil (by kernel_rfl)
theorem settings_cl (hs:s.length≤300000) (hm:MaxL H) (h10:Tab10 H):LC Tryz.prog EJ 49 [str s] H=some (.tuple #[suv (Tg.Sc.setP s),.bool (Tg.Sc.settings s).isSome],H):=by
 rw [set_ok]
 obtain⟨H1,hH1⟩: ∃H1,H1=H.new ⟨setc false 0 0 0 0,64,true⟩:=⟨_,rfl⟩
 have n1:H1.n=H.n+1:=by rw [hH1];rfl
 have b1:Bs H H1:=by rw [hH1];exact⟨rfl,rfl⟩
 have le1:H.le H1:=by rw [hH1];exact le_refl.new
 have hsp:=split_c (H:=H1) 32 (s:=s) (by omega) (hm.bs b1)
 have hwl:=getD_len hs
 have hsu:=fun(G:LH) (hG:Bs H G)=>setup_cl (H:=G) (c:=Tg.Sc.setP s) (h10.bs hG)
 have hep:Tg.Sc.setP s=(let w:=fun i=>(Tg.Sc.cutAt 32 s).getD i []
  ⟨decide (w 1=Tg.Sc.kwLegacy),Tg.Sc.numP (w 2),Tg.Sc.numP (w 3),Tg.Sc.numP (w 4),Tg.Sc.numP (w 5)⟩):=rfl
 generalize hst:(if Tg.Sc.fineS (Tg.Sc.setP s)=true then Tg.Sc.setupT (Tg.Sc.setP s)else [])=st at*
 generalize hws:Tg.Sc.cutAt 32 s=ws at*
 generalize Tg.Sc.setP s=ep at*
 obtain⟨w,hw⟩: ∃w:Nat→List UInt8,w=fun i=>ws.getD i []:=⟨_,rfl⟩
 have wa: ∀ {G:LH} {pr i:Nat},Rd G pr (ws.drop i)→ ∃H',LC Tryz.prog EJ 63 [ptr pr 0] G=some (str (w i),H')∧Rd H' pr (ws.drop (i+1))∧But pr G H':=fun {G pr i} h=>by rw [hw];exact word_at h
 have na: ∀ {G:LH} {pr i:Nat},Rd G pr (ws.drop i)→ ∃H',LC Tryz.prog EJ 64 [ptr pr 0] G=some (.int .i64 (Tg.Sc.numP (w i):Nat),H')∧Rd H' pr (ws.drop (i+1))∧But pr G H':=fun {G pr i} h=>by rw [hw];exact num_at h (hwl i)
 have hwi: ∀i,ws.getD i []=w i:=fun i=>by rw [hw]
 simp only [hwi]at hep
 clear hw hwi hst
 subst hep
 obtain⟨H2,hH2⟩: ∃H2,H2=H1.new ⟨ws.map str,9,true⟩:=⟨_,rfl⟩
 have n2:H2.n=H.n+1+1:=by rw [hH2,n_new,n1]
 have g2:H2.get (H.n+1)=some ⟨ws.map str,9,true⟩:=by rw [hH2,←n1];exact get_new
 obtain⟨H3,hH3⟩: ∃H3,H3=H2.new ⟨[.slice (some ⟨H.n+1,0,none⟩) ws.length ws.length],110,true⟩:=⟨_,rfl⟩
 have n3:H3.n=H.n+1+1+1:=by rw [hH3,n_new,n2]
 have r3:Rd H3 (H.n+1+1) (ws.drop 0):=by
  refine⟨_,by rw [hH3,←n2];exact get_new,by omega,.inr ⟨H.n+1,0,ws.length,_,rfl,by rw [hH3,get_new_ne (by omega)];exact g2,by omega,?_,Nat.le_refl _⟩⟩
  rw [List.drop_zero,List.take_of_length_le (by simp)];rfl
 have b3:Bs H H3:=by rw [hH3,hH2];exact b1
 have le3:H.le H3:=by rw [hH3,hH2];exact le1.new.new
 have g3:H3.get H.n=some ⟨setc false 0 0 0 0,64,true⟩:=by rw [hH3,get_new_ne (by omega),hH2,get_new_ne (by omega),hH1];exact get_new
 rw [←hH2]at hsp
 obtain⟨H4,e4,r4,u4⟩:=wa r3
 obtain⟨H5,e5,r5,u5⟩:=wa r4
 obtain⟨H6,e6,r6,u6⟩:=na r5
 obtain⟨H7,e7,r7,u7⟩:=na r6
 have u37:=((u4.trans u5).trans u6).trans u7
 have n7:H7.n=H.n+1+1+1:=by rw [u37.n,n3]
 obtain⟨bl,hbl⟩: ∃bl,bl=decide (w 1=Tg.Sc.kwLegacy):=⟨_,rfl⟩
 rw [←hbl]at hsu⊢
 obtain⟨H8,hH8⟩: ∃H8,H8=H7.new ⟨setc bl (Tg.Sc.numP (w 2):Nat) (Tg.Sc.numP (w 3):Nat) 0 0,64,true⟩:=⟨_,rfl⟩
 have n8:H8.n=H.n+1+1+1+1:=by rw [hH8,n_new,n7]
 have g8:H8.get (H.n+1+1+1)=some ⟨setc bl (Tg.Sc.numP (w 2):Nat) (Tg.Sc.numP (w 3):Nat) 0 0,64,true⟩:=by rw [hH8,←n7];exact get_new
 have r8:Rd H8 (H.n+1+1) (ws.drop 4):=r7.keep (by omega) (fun j hj=>by rw [hH8,get_new_ne (by omega)])
 obtain⟨H9,e9,r9,u9⟩:=na r8
 obtain⟨H10,e10,r10,u10⟩:=na r9
 have u80:=u9.trans u10
 have g10:H10.get (H.n+1+1+1)=some ⟨setc bl (Tg.Sc.numP (w 2):Nat) (Tg.Sc.numP (w 3):Nat) 0 0,64,true⟩:=by rw [u80.old _ (by omega) (by omega)];exact g8
 have o10: ∀j,j<H.n+1→H10.get j=H3.get j:=fun j hj=>by
  rw [u80.old j (by omega) (by omega),hH8,get_new_ne (by omega),u37.old j (by omega) (by omega)]
 have g10':=(o10 H.n (by omega)).trans g3
 have b10:Bs H H10:=(b3.trans u37.bs).trans (Bs.trans (H1:=H8) (by rw [hH8];exact⟨rfl,rfl⟩) u80.bs)
 obtain⟨Hf,hHf⟩: ∃Hf,Hf=H10.set (H.n+1+1+1) ⟨setc bl (Tg.Sc.numP (w 2):Nat) (Tg.Sc.numP (w 3):Nat) (Tg.Sc.numP (w 4):Nat) (Tg.Sc.numP (w 5):Nat),64,true⟩:=⟨_,rfl⟩
 have gf:Hf.get (H.n+1+1+1)=some ⟨setc bl (Tg.Sc.numP (w 2):Nat) (Tg.Sc.numP (w 3):Nat) (Tg.Sc.numP (w 4):Nat) (Tg.Sc.numP (w 5):Nat),64,true⟩:=by rw [hHf];exact get_set
 have gf':Hf.get H.n=some ⟨setc false 0 0 0 0,64,true⟩:=by rw [hHf,get_set_ne (by omega)];exact g10'
 have bf:Bs H Hf:=by rw [hHf];exact b10
 have lef:H.le Hf:=⟨by rw [hHf];show H.n≤H10.n;rw [u80.n];omega,fun j hj=>by rw [hHf,get_set_ne (by omega),o10 j (by omega),le3.2 j hj]⟩
 have hs2:=hsu Hf bf
 have d1:=eq_false (show¬H.n=H.n+1+1+1 by omega)
 refine LC_pure rfl Tryz.func49 rfl (by kernel_rfl) rfl ?_
 have hbd:w 1= [108,101,103,97,99,121]↔bl=true:=by rw [hbl,decide_eq_true_eq];rfl
 by_cases hb0:s= []
 ·have q0:=eq_true hb0
  cases bl with
  |true=>
   have qb:=eq_true (hbd.mpr rfl)
   simp [set_fill,←hH1,hsp,←hH3,n1,n2,n3,e4,e5,e6,e7,n7,←hH8,e9,e10,g8,g10,←hHf,gf,gf',d1,q0,qb]
   exact lef
  |false=>
   have qb:=eq_false (fun h=>absurd (hbd.mp h) (by decide))
   simp [set_fill,←hH1,hsp,←hH3,n1,n2,n3,e4,e5,e6,e7,n7,←hH8,e9,e10,g8,g10,←hHf,gf,gf',d1,q0,qb]
   exact lef
 ·have q0:=eq_false hb0
  cases bl with
  |true=>
   have qb:=eq_true (hbd.mpr rfl)
   simp [set_fill,←hH1,hsp,←hH3,n1,n2,n3,e4,e5,e6,e7,n7,←hH8,e9,e10,g8,g10,←hHf,gf,gf',d1,q0,qb,hs2]
   exact lef
  |false=>
   have qb:=eq_false (fun h=>absurd (hbd.mp h) (by decide))
   simp [set_fill,←hH1,hsp,←hH3,n1,n2,n3,e4,e5,e6,e7,n7,←hH8,e9,e10,g8,g10,←hHf,gf,gf',d1,q0,qb,hs2]
   exact lef
end
abbrev evl (e:Tg.Sc.Ev) (p:Value):List Value:= [.int .i64 e.kind,.int .i64 e.id,str e.url,str e.src,str e.mode,.int .i64 e.media,.int .i64 e.status,p,str e.body]
def ecells (L:List (Tg.Sc.Ev×Value)):List Value:=L.flatMap fun x=>evl x.1 x.2
theorem ecells_len: ∀L,(ecells L).length=L.length*9
 | []=>rfl
 |x::L=>by
  unfold ecells
  rw [List.flatMap_cons,List.length_append]
  have:=ecells_len L
  unfold ecells at this
  simp only [List.length_cons,List.length_nil]at this⊢
  omega
theorem ecells_app (a b:List (Tg.Sc.Ev×Value)):ecells (a++b)=ecells a++ecells b:=List.flatMap_append
theorem ecells_at: ∀ {L:List (Tg.Sc.Ev×Value)} {i:Nat} (h:i<L.length) (r:List Value),((ecells L++r).drop (i*9)).take 9=evl L[i].1 L[i].2
 | [],i,h,_=>by simp at h
 |x::L,0,h,r=>by
  show((evl x.1 x.2++ecells L++r).drop 0).take 9=_
  simp
 |x::L,i+1,h,r=>by
  have ih:=ecells_at (L:=L) (i:=i) (by simpa using h) r
  show((evl x.1 x.2++ecells L++r).drop ((i+1)*9)).take 9=_
  rw [List.append_assoc,show(i+1)*9=9+i*9 by omega,←List.drop_drop]
  exact ih
def ERow (N:Nat) (H:LH) (v:Value) (l:List Tg.Sc.Ev):Prop:=
 ∃L:List (Tg.Sc.Ev×Value),L.map Prod.fst=l∧RowN N H 83 9 v L.length (ecells L)∧ ∀x∈L,HOwn 0 H x.2 x.1.hdrs
section
variable {H H':LH} {s:List UInt8} {v p:Value} {l:List Tg.Sc.Ev} {e:Tg.Sc.Ev} {N:Nat}
theorem hown_at {hs:List Tg.Hd.Hdr} (h:HOwn N H p hs) {k:Nat} (hk: ¬offRow p k): ∃b,H.get k=some b∧b.elem=73:=by
 rcases h.2 with⟨rfl,_⟩|⟨j,c,rest,rfl,g1,g2,g3,g4,g5⟩
 ·exact absurd off_nil hk
 ·by_cases e:j=k
  ·subst e;exact⟨_,g3,rfl⟩
  ·exfalso
   refine hk (fun n c h=>?_)
   injection h with h
   injection h with h
   injection h with h
   exact e h
theorem ERow.nil:ERow N H (.slice none 0 0) []:=⟨[],rfl,RowN.nil,fun x hx=>by cases hx⟩
theorem ERow.keep (h:ERow N H v l) (hn:H.n≤H'.n) (hk: ∀k,k<H.n→H'.get k=H.get k):ERow N H' v l:=by
 obtain⟨L,h1,h2,h3⟩:=h
 exact⟨L,h1,h2.keep hn (fun k _ _ h=>hk k h),fun x hx=>(h3 x hx).keep hn (fun k _ _ h=>hk k h)⟩
theorem ERow.len (h:ERow N H v l):lbuiltin Tryz.prog .len [65] [v] H'=some (.int .i64 l.length,H'):=by
 obtain⟨L,rfl,h2,_⟩:=h
 rw [List.length_map]
 exact RowN.len h2 Tryz.underlying65
theorem ERow.cell (h:ERow N H v l):cellB v=true:=by
 obtain⟨L,_,h2,_⟩:=h
 exact h2.cell
theorem ERow.slice (h:ERow N H v l): ∃a n c,v=.slice a n c:=by
 obtain⟨L,_,h2,_⟩:=h
 rcases h2.2 with⟨rfl,_⟩|⟨k,c,rest,rfl,_⟩
 ·exact⟨_,_,_,rfl⟩
 ·exact⟨_,_,_,rfl⟩
theorem ERow.weak {N':Nat} (h:ERow N H v l) (hn:N'≤N):ERow N' H v l:=by
 obtain⟨L,h1,h2,h3⟩:=h
 refine⟨L,h1,⟨h2.1,?_⟩,h3⟩
 rcases h2.2 with h4|⟨k,c,rest,e,g1,g⟩
 ·exact .inl h4
 ·exact .inr ⟨k,c,rest,e,by omega,g⟩
theorem ERow.set {j:Nat} {b b2:LB} (h:ERow N H v l) (hj:j<N) (hg:H.get j=some b) (hne:b.elem≠73):ERow N (H.set j b2) v l:=by
 obtain⟨L,h1,h2,h3⟩:=h
 have hx: ∀k,k≠j→(H.set j b2).get k=H.get k:=fun k hk=>get_set_ne hk
 refine⟨L,h1,h2.keep (Nat.le_refl _) (fun k hk _ _=>hx k (by omega)),fun x hxm=>(h3 x hxm).keep (Nat.le_refl _) (fun k _ hno _=>hx k (fun e=>?_))⟩
 subst e
 obtain⟨b',q1,q2⟩:=hown_at (h3 x hxm) hno
 rw [hg]at q1
 injection q1 with q1
 subst q1
 exact hne q2
theorem ERow.at (h:ERow N H v l) {i:Nat} (hi:i<l.length): ∃k o p,(∀H':LH,lixa Tryz.prog 65 v (.int .i64 i) H'=some (ptr k o,H'))∧k<H.n∧HOwn 0 H p l[i].hdrs∧ ∀H':LH,H'.get k=H.get k→
  lld Tryz.prog 83 (ptr k o) H'=some (evv l[i] p)∧lld Tryz.prog 9 (ptr k (o+8)) H'=some (str l[i].body):=by
 obtain⟨L,rfl,h2,h3⟩:=h
 have hi':i<L.length:=by simpa using hi
 rcases h2.2 with⟨rfl,h0⟩|⟨k,c,rest,rfl,g1,g2,g3,g4,g5⟩
 ·omega
 ·refine⟨k,i*9,L[i].2,fun H'=>?_,g2,?_,fun H' e=>?_⟩
  ·have q:=eq_true (show(i:Int)<(L.length:Int) by omega)
   simp [q]
  ·rw [List.getElem_map]
   exact h3 _ (List.getElem_mem hi')
  ·rw [g3]at e
   have hat:=ecells_at hi' rest
   have hle:i*9+9≤(ecells L++rest).length:=by rw [List.length_append,ecells_len];have:=Nat.mul_le_mul_right 9 (show i+1≤L.length by omega);omega
   have hc8:(ecells L++rest)[i*9+8]?=some (str L[i].1.body):=by
    have:=congrArg (fun z=>z[8]?) hat
    simpa [List.getElem?_take,List.getElem?_drop]using this
   rw [List.getElem_map]
   constructor
   ·rw [lld_ptr e,show aggB Tryz.prog 83=some true by kernel_rfl,show sz Tryz.prog 83=some 9 by kernel_rfl]
    rw [lldb_agg hle,hat]
   ·rw [lld_ptr e,show aggB Tryz.prog 9=some false by kernel_rfl,lldb_cell]
    exact hc8
theorem bs1e:lbuildSlice Tryz.prog 65 1 [(0,.agg ⟨evl e p⟩)] H=some (sl H.n 1 1,H.new ⟨evl e p,83,true⟩):=by
 unfold lbuildSlice
 simp [Instr.fill,Value.cells,Array.range]
 rfl
theorem evl_cells (hp:cellB p=true):(evl e p).all cellB=true:=by simp [hp]
theorem e_app (h:ERow N H v l) (hN:N≤H.n) (hl:l.length≤100000) (hp:HOwn 0 H p e.hdrs):
  ∃v' H2,lapp Tryz.prog 65 v (some (1,evl e p)) (H.new ⟨evl e p,83,true⟩)=some (v',H2)∧ERow N H2 v' (l++ [e])∧H.n<H2.n∧ ∀k,k<N→H2.get k=H.get k:=by
 obtain⟨L,rfl,h2,h3⟩:=h
 have hH:RowN N (H.new ⟨evl e p,83,true⟩) 83 9 v L.length (ecells L):=h2.keep (Nat.le_succ _) (fun k _ _ hk=>get_new_ne (by omega))
 obtain⟨v',H2,ha,hr,hk,hf⟩:=RowN.app (P:=Tryz.prog) (t:=65) (new:=evl e p) (m:=1) hH Tryz.underlying65 (by kernel_rfl) (evl_cells hp.cell) (by simp) (by unfold maxElems;simp at hl;omega) (by rw [n_new];omega) (.inl (Nat.le_refl 1))
 have hkp: ∀ {q:Value} {hs:List Tg.Hd.Hdr},HOwn 0 H q hs→HOwn 0 H2 q hs:=fun {q hs} hq=>hq.keep (by have:=hk.le;rw [n_new]at this;omega) (fun k _ hno hkn=>by
  obtain⟨b,g1,g2⟩:=hown_at hq hno
  rw [hk.get k (by rw [n_new];omega) (RowN.off_of_elem h2 g1 (by rw [g2];decide)),get_new_ne (by omega)])
 refine⟨v',H2,ha,⟨L++ [(e,p)],by simp,?_,fun x hx=>?_⟩,by have:=hk.le;rw [n_new]at this;omega,fun k hkn=>?_⟩
 ·have e1:ecells (L++ [(e,p)])=ecells L++evl e p:=by rw [ecells_app];rfl
  rw [List.length_append,e1];exact hr
 ·rcases List.mem_append.mp hx with hx|hx
  ·exact hkp (h3 x hx)
  ·simp only [List.mem_cons,List.not_mem_nil,or_false]at hx
   subst hx
   exact hkp hp
 ·rw [hk.get k (by rw [n_new];omega) (h2.off_lt hkn),get_new_ne (by omega)]
theorem evs_nil:Tg.Sc.evs []=([],none):=by unfold Tg.Sc.evs;rfl
theorem evs_none {a:List UInt8} {b:List (List UInt8)} (h:Tg.Sc.nextP a b=none):Tg.Sc.evs (a::b)=([],some (a::b)):=by unfold Tg.Sc.evs;rw [h]
theorem evs_some {a:List UInt8} {b:List (List UInt8)} {e:Tg.Sc.Ev} {n:Nat} (h:Tg.Sc.nextP a b=some (e,n)):Tg.Sc.evs (a::b)=(e::(Tg.Sc.evs (b.drop n)).1,(Tg.Sc.evs (b.drop n)).2):=by
 conv=>lhs;unfold Tg.Sc.evs
 rw [h]
def OutR (H:LH) (x:Tg.Sc.Setup×List Tg.Sc.Ev×Int×Int) (r:Value×LH):Prop:=
 ∃p,r.1=.tuple #[suv x.1,p,.int .i64 x.2.2.1,.int .i64 x.2.2.2]∧H.le r.2∧ERow H.n r.2 p x.2.1
theorem OutR.trunc {x:Tg.Sc.Setup×List Tg.Sc.Ev×Int×Int} {u:Value} {H':LH} (h:OutR H x (u,H')): ∃H2,Lg.trunc H (u,H')=(u,H2)∧OutR H x (u,H2):=by
 rcases trunc_or u H H' with e2|⟨e2,hf,_⟩
 ·exact⟨H',e2,h⟩
 ·refine⟨H,e2,?_⟩
  obtain⟨p,h1,h2,L,h3,h4,h5⟩:=h
  refine⟨p,h1,le_refl,?_⟩
  rcases h4.2 with⟨rfl,h6⟩|⟨k,c,rest,rfl,_⟩
  ·have:L= []:=List.eq_nil_of_length_eq_zero h6
   subst this
   rw [←h3];exact ERow.nil
  ·simp only at h1
   rw [h1]at hf
   simp [flatB,flat1B,atomB]at hf
theorem cut_count (s:List UInt8):(Tg.Sc.cutAt 10 s).length≤s.length+1:=by
 obtain⟨e1,e2,e3,e4⟩:=Tg.Sc.cut_rows 10 s
 omega
theorem read_ex (hs:s.length≤70000) (hm:MaxL H) (ht:Tab H) (h10:Tab10 H): ∃u,LC Tryz.prog EJ 40 [str s] H=some u∧OutR H (Tg.Sc.readP s) u:=by
 have key: ∃u,LC Tryz.prog EJ 40 [str s] H=some (Lg.trunc H u)∧OutR H (Tg.Sc.readP s) u:=by
  refine LC_runs (P:=Tryz.prog) (E:=EJ) (f:=40) rfl Tryz.func40 rfl (by kernel_rfl) ?_
  obtain⟨H1,hH1⟩: ∃H1,H1=H.new ⟨setc false 0 0 0 0,64,true⟩:=⟨_,rfl⟩
  have n1:H1.n=H.n+1:=by rw [hH1];rfl
  have b1:Bs H H1:=by rw [hH1];exact⟨rfl,rfl⟩
  have le1:H.le H1:=by rw [hH1];exact le_refl.new
  have g1:H1.get H.n=some ⟨setc false 0 0 0 0,64,true⟩:=by rw [hH1];exact get_new
  have hsp:=split_c (H:=H1) 10 (s:=s) (by omega) (hm.bs b1)
  have hcc:=cut_count s
  have hcl:=Tg.Sc.cut_len 10 s
  have hcn:=Tg.Sc.cut_ne 10 s
  have hst:Tg.Sc.readP s=Tg.Sc.readL (Tg.Sc.cutAt 10 s):=by
   unfold Tg.Sc.readP
   rw [if_neg (by omega)]
  rw [hst]
  clear hst
  generalize Tg.Sc.cutAt 10 s=al at*
  obtain⟨H2,hH2⟩: ∃H2,H2=H1.new ⟨al.map str,9,true⟩:=⟨_,rfl⟩
  have n2:H2.n=H.n+1+1:=by rw [hH2,n_new,n1]
  have g2:H2.get H.n=some ⟨setc false 0 0 0 0,64,true⟩:=by rw [hH2,get_new_ne (by omega)];exact g1
  have le2:H.le H2:=by rw [hH2];exact le1.new
  have b2:Bs H H2:=by rw [hH2];exact b1
  rw [←hH2,n1]at hsp
  have hrow:TRow H2 (sl (H.n+1) al.length al.length) al:=by
   rw [hH2,←n1];exact TRow.new (Nat.le_refl _)
  have hpos:0<al.length:=List.length_pos_iff.mpr hcn
  obtain⟨kl,ol,l1,_,l3⟩:=hrow.at (i:=al.length-1) (by omega)
  have l4:=l3 H2 rfl
  have hlast:al[al.length-1]'(by omega)=al.getLast?.getD []:=by
   rw [List.getLast?_eq_getElem?,List.getElem?_eq_getElem (by omega)];rfl
  rw [hlast]at l4
  have hwl:IntKind.i64.wrap ((al.length:Int)-1)=((al.length-1:Nat):Int):=by rw [wrapI (by omega) (by omega)];omega
  obtain⟨v1,hp1,hv1⟩:=hrow.part (a:=none) (b:=some (.int .i64 ((al.length-1:Nat):Int))) (p:=0) (q:=al.length-1) rfl (by
   show(if(0:Int)≤((al.length-1:Nat):Int)then some (((al.length-1:Nat):Int)).toNat else none)=some (al.length-1)
   rw [if_pos (by omega)];congr 1) (by omega) (by omega)
  rw [List.drop_zero,←List.dropLast_eq_take]at hv1
  have qbig:=eq_false (show¬(4194304:Int)<(s.length:Int) by omega)
  have hdn:al.dropLast.length=al.length-1:=List.length_dropLast
  have hdm: ∀x∈al.dropLast,x.length≤s.length:=fun x hx=>hcl x (List.dropLast_subset _ hx)
  unfold Tg.Sc.readL
  generalize hrest:al.getLast?.getD []=rest at*
  generalize hdl:al.dropLast=dl at*
  have hvl:=fun G:LH=>hv1.len (H':=G)
  have fin: ∀(G:LH) (x:Tg.Sc.Setup×List Tg.Sc.Ev×Int×Int) (b:LB),x.2.1= []→H.le G→OutR H x (.tuple #[suv x.1,.slice none 0 0,.int .i64 x.2.2.1,.int .i64 x.2.2.2],G.set H.n b):=fun G x b h1 h2=>⟨_,rfl,(le_set_iff (Nat.le_refl _)).2 h2,by rw [h1];exact ERow.nil⟩
  cases dl with
  |nil=>
   simp at hvl
   simp [qbig,←hH1,hsp,l1,l4,hwl,hp1,hvl,g2]
   exact fin H2 (Tg.Sc.set0,[],1,2) _ rfl le2
  |cons s0 r=>
   simp only [List.length_cons]at hvl hdn
   have hs0:=hdm s0 (by simp)
   obtain⟨k0,o0,m1,_,m3⟩:=hv1.at (i:=0) (by simp)
   have m4:=m3 H2 rfl
   simp only [List.getElem_cons_zero]at m4
   have m1: ∀G:LH,lixa Tryz.prog 25 v1 (.int .i64 0) G=some (ptr k0 o0,G):=m1
   have hse:=settings_cl (H:=H2) (s:=s0) (by omega) (hm.bs b2) (h10.bs b2)
   have hsd: ∀c,Tg.Sc.settings s0=some c→c=Tg.Sc.setP s0:=fun c h=>by
    unfold Tg.Sc.settings at h
    split at h
    ·injection h with h;exact h.symm
    ·cases h
   have qz:=eq_false (show¬(r.length:Int)+1=0 by omega)
   simp only
   generalize hc0:Tg.Sc.setP s0=c0 at*
   obtain⟨H3,hH3⟩: ∃H3,H3=H2.new ⟨setc c0.legacy c0.look c0.depth c0.table c0.valid,64,true⟩:=⟨_,rfl⟩
   have n3:H3.n=H.n+1+1+1:=by rw [hH3,n_new,n2]
   have le3:H.le H3:=by rw [hH3];exact le2.new
   have b3:Bs H H3:=by rw [hH3];exact b2
   have g3:H3.get H.n=some ⟨setc false 0 0 0 0,64,true⟩:=by rw [hH3,get_new_ne (by omega)];exact g2
   have g3':H3.get (H.n+1+1)=some ⟨setc c0.legacy c0.look c0.depth c0.table c0.valid,64,true⟩:=by rw [hH3,←n2];exact get_new
   cases hso:Tg.Sc.settings s0 with
   |none=>
    rw [hso]at hse
    simp only [Option.isSome_none]at hse
    simp only
    simp [qbig,←hH1,hsp,l1,l4,hwl,hp1,hvl,m1,m4,hse,n2,←hH3,g3,qz]
    exact fin H3 (Tg.Sc.set0,[],1,2) _ rfl le3
   |some c=>
    have hcc0:=hsd c hso
    rw [hso]at hse
    simp only [Option.isSome_some]at hse
    simp only
    rw [hcc0]
    clear hcc0 hsd hso
    simp [qbig,←hH1,hsp,l1,l4,hwl,hp1,hvl,m1,m4,hse,n2,←hH3,g3,qz]
    have hlr:(s0::r).length≤70001:=by rw [List.length_cons];omega
    refine loop_ind (fun(a:Nat) fr' H'=> ∃w acc,fr' 2=ptr H.n 0∧fr' 6=v1∧fr' 7=str rest∧fr' 8=ptr (H.n+1+1) 0∧fr' 10=w∧fr' 11=.int .i64 a∧1≤a∧a≤r.length+1∧ERow (H.n+1+1+1) H' w acc∧Tg.Sc.evs r=(acc++(Tg.Sc.evs ((s0::r).drop a)).1,(Tg.Sc.evs ((s0::r).drop a)).2)∧acc.length≤a∧H.n+1+1+1≤H'.n∧(∀k,k<H.n+1+1+1→H'.get k=H3.get k)∧Bs H H') (fun a=>r.length+1-a) 1 ⟨.slice none 0 0,[],by simp,by simp,by simp,by simp,by simp,by simp,Nat.le_refl _,by omega,ERow.nil,by simp,by simp,by omega,fun k hk=>rfl,b3⟩ ?_
    rintro a fr' H' ⟨w,acc,f2,f6,f7,f8,f10,f11,ha1,ha2,hrw,hev,hal,hn,hk,hb⟩ ih
    subst f10
    have hv':TRow H' v1 (s0::r):=hv1.keep (by omega) (fun k hk2=>by rw [hk k (by omega),hH3,get_new_ne (by omega)])
    have gz:H'.get H.n=some ⟨setc false 0 0 0 0,64,true⟩:=by rw [hk _ (by omega)];exact g3
    have gc:H'.get (H.n+1+1)=some ⟨setc c0.legacy c0.look c0.depth c0.table c0.valid,64,true⟩:=by rw [hk _ (by omega)];exact g3'
    have leH:H.le H':=⟨by omega,fun k hk2=>by rw [hk k (by omega)];exact le3.2 k hk2⟩
    by_cases hlt:a<r.length+1
    ·have q:=eq_true (show(a:Int)<(r.length:Int)+1 by omega)
     have qle:=eq_true (show(a:Int)≤(r.length:Int)+1 by omega)
     obtain⟨v2,hp2,hv2⟩:=hv'.part (a:=some (.int .i64 (a:Int))) (b:=none) (p:=a) (q:=r.length+1) (by
      show(if(0:Int)≤(a:Int)then some (a:Int).toNat else none)=some a
      rw [if_pos (by omega)];congr 1) rfl (by omega) (by simp)
     rw [List.take_of_length_le (by simp)]at hv2
     have hdr:(s0::r).drop a=(s0::r)[a]'(by simpa using hlt)::(s0::r).drop (a+1):=List.drop_eq_getElem_cons (by simpa using hlt)
     have hmem: ∀x∈(s0::r).drop a,x.length≤300000:=fun x hx=>by
      have:=hdm x (List.mem_of_mem_drop hx)
      omega
     have hrl:((s0::r).drop (a+1)).length≤80000:=by rw [List.length_drop];omega
     have hrl2:((s0::r).drop (a+1)).length=r.length+1-(a+1):=by rw [List.length_drop];rfl
     have hdd: ∀k,((s0::r).drop (a+1)).drop k=(s0::r).drop (a+(k+1)):=fun k=>by rw [List.drop_drop];congr 1;omega
     rw [hdr]at hv2 hmem
     rw [hdr]at hev
     generalize (s0::r)[a]'(by simpa using hlt)=s1 at*
     generalize hr1:(s0::r).drop (a+1)=r1 at*
     obtain⟨⟨u,H4⟩,e4,o4⟩:=next_ex hv2 hmem hrl (hm.bs hb) (ht.bs hb) (h10.bs hb)
     have hb4:Bs H' H4:=ext_bs e4
     obtain⟨e,p,n,ok,hu,hcp,hle4,hx⟩:=o4
     simp only at hu hle4 hx
     subst hu
     have hw1: ∀x:Nat,x≤100000→IntKind.i64.wrap ((a:Int)+((x:Int)+1))=((a+(x+1):Nat):Int):=fun x hx=>by rw [wrapI (by omega) (by omega)];omega
     have hwa:IntKind.i64.wrap ((a:Int)+1)=(a:Int)+1:=wrapI (by omega) (by omega)
     obtain⟨H5,hH5⟩: ∃H5,H5=H4.new ⟨evl e p,83,true⟩:=⟨_,rfl⟩
     have n5:H5.n=H4.n+1:=by rw [hH5];rfl
     have g5:H5.get H4.n=some ⟨evl e p,83,true⟩:=by rw [hH5];exact get_new
     have k5: ∀k,k<H'.n→H5.get k=H'.get k:=fun k hk2=>by rw [hH5,get_new_ne (by have:=hle4.1;omega),hle4.2 k hk2]
     have z5:H5.get H.n=some ⟨setc false 0 0 0 0,64,true⟩:=by rw [k5 _ (by omega)];exact gz
     have le5:H.le H5:=⟨by have:=hle4.1;omega,fun k hk2=>by rw [k5 k (by omega)];exact leH.2 k hk2⟩
     cases hnx:Tg.Sc.nextP s1 r1 with
     |none=>
      rw [hnx]at hx
      simp only at hx
      subst hx
      rw [evs_none hnx]at hev
      rw [hev]
      simp [f2,f6,f7,f8,f11,q,qle,hvl,hp2,e4,hcp,←hH5,g5,z5,hwa]
      have e1:((r.length-(r1.length+1):Nat):Int)+2=(a:Int)+1:=by omega
      rw [e1]
      exact fin H5 (Tg.Sc.set0,[],(a:Int)+1,2) ⟨setc false 0 0 0 0,64,true⟩ rfl le5
     |some y=>
      obtain⟨e',k⟩:=y
      rw [hnx]at hx
      obtain⟨rfl,rfl,rfl,hown⟩:=hx
      obtain⟨hkl,hgd,hsh,_⟩:=Tg.Sc.next_some hnx
      rw [evs_some hnx,hdd]at hev
      have hown5:HOwn 0 H5 p e.hdrs:=(hown_weak hown (Nat.zero_le _)).keep (by omega) (fun j _ _ hj=>by rw [hH5,get_new_ne (by omega)])
      have hrw5:ERow (H.n+1+1+1) H5 (fr' 10) acc:=hrw.keep (by have:=hle4.1;omega) k5
      obtain⟨w2,H6,d1,d2,d3,d4⟩:=e_app hrw5 (by have:=hle4.1;omega) (by omega) hown5
      have hb6:Bs H H6:=(hb.trans hb4).trans ((Bs.trans (H1:=H5) (by rw [hH5];exact⟨rfl,rfl⟩) (Bs.trans (H1:=H5.new _) ⟨rfl,rfl⟩ (lapp_bs d1))))
      have hfin:=fun fr2 (f2:fr2 2=ptr H.n 0) (f6:fr2 6=v1) (f7:fr2 7=str rest) (f8:fr2 8=ptr (H.n+1+1) 0) (f10:fr2 10=w2) (f11:fr2 11=.int .i64 ((a+(k+1):Nat):Int))=>ih (a+(k+1)) fr2 H6 (by omega) ⟨w2,acc++ [e],f2,f6,f7,f8,f10,f11,by omega,by omega,d2,by rw [hev];simp,by rw [List.length_append];simp;omega,by have:=hle4.1;omega,fun j hj=>by rw [d4 j hj,k5 j (by omega),hk j hj],hb6⟩
      have hwk:=hw1 k (by omega)
      clear ih hrw hrw5 d2 hev
      simp [f2,f6,f7,f8,f11,q,qle,hvl,hp2,e4,hcp,←hH5,g5,z5,hwa,bs1e,d1]
      refine hfin _ ?_ ?_ ?_ ?_ ?_ ?_
      all_goals simp [f2,f6,f7,f8,hwk]
    ·have ha:a=r.length+1:=by omega
     subst ha
     have q:=eq_false (show¬(r.length:Int)+1<(r.length:Int)+1 by omega)
     rw [List.drop_of_length_le (by simp),evs_nil,List.append_nil]at hev
     rw [hev]
     have hlen:=fun G:LH=>hrw.len (H':=G)
     by_cases hr0:rest= []
     ·have q0:=eq_true hr0
      by_cases hbig:5000<acc.length
      ·have q1:=eq_true (show(5000:Int)<(acc.length:Int) by omega)
       simp [f2,f6,f7,f8,f11,q,hvl,q0,q1,hlen,gz,hbig]
       exact fin H' (Tg.Sc.set0,[],0,6) ⟨setc false 0 0 0 0,64,true⟩ rfl leH
      ·have q1:=eq_false (show¬(5000:Int)<(acc.length:Int) by omega)
       simp [f2,f6,f7,f8,f11,q,hvl,q0,q1,hlen,gz,gc,hbig]
       exact⟨fr' 10,rfl,(le_set_iff (Nat.le_refl _)).2 leH,(hrw.set (by omega) gz (by decide)).weak (by omega)⟩
     ·have q0:=eq_false hr0
      have hwa:IntKind.i64.wrap ((r.length:Int)+1+1)=(r.length:Int)+2:=by rw [wrapI (by omega) (by omega)];omega
      simp [f2,f6,f7,f8,f11,q,hvl,q0,gz,hwa]
      exact fin H' (Tg.Sc.set0,[],(r.length:Int)+2,2) ⟨setc false 0 0 0 0,64,true⟩ rfl leH
 obtain⟨⟨u,H'⟩,e,ho⟩:=key
 obtain⟨H2,e2,ho2⟩:=ho.trunc
 exact⟨(u,H2),by rw [e,e2],ho2⟩
end
def livesC:Tg.Sc.Setup:=⟨false,1445,9,2,2⟩
section
variable {H H':LH} {s:List UInt8} {v p:Value}
end
theorem cc {a b:List UInt8} (h:a.length+b.length≤90000000) (t:TypeId):lbin Tryz.prog .add t (str a) (str b)=some (str (a++b)):=lbin_cat (by omega)
end Go.Proofs.YteeiipildjgdbaaGreatDoor.Sc
namespace Tg.Ur
def lowd:List UInt8:= [48,49,50,51,52,53,54,55,56,57,97,98,99,100,101,102]
def hexAt (i:Nat) (b:UInt8):Prop:=lowd.getD i 0=b∨hexd.getD i 0=b
instance (i b):Decidable (hexAt i b):=by unfold hexAt;infer_instance
end Tg.Ur
namespace Go.Proofs.YteeiipildjgdbaaGreatDoor
open Go.Lg Go.Tg
section
variable {H:LH} {b:UInt8} {s p:List UInt8}
end
section
variable {H:LH} {b:UInt8} {s p:List UInt8} {u:Tg.Ur.Url}
end
section
variable {H:LH} {b:UInt8} {s p:List UInt8}
end
end Go.Proofs.YteeiipildjgdbaaGreatDoor
namespace Tg.Ur
def isL (b:UInt8):Bool:=(decide ((97:Int)≤b.toNat)&&decide ((b.toNat:Int)≤122))||isD b||b==45
end Tg.Ur
namespace Go.Proofs.YteeiipildjgdbaaGreatDoor
open Go.Lg Go.Tg
section
variable {H:LH} {b:UInt8} {s p:List UInt8}
end
end Go.Proofs.YteeiipildjgdbaaGreatDoor
namespace Tg.Ur
end Tg.Ur
namespace Go.Proofs.YteeiipildjgdbaaGreatDoor
open Go.Lg Go.Tg
section
variable {H:LH} {b:UInt8} {s p:List UInt8}
end
section
variable {H:LH} {b:UInt8} {s p:List UInt8} {u:Tg.Ur.Url}
end
section
variable {H:LH} {b:UInt8} {s p:List UInt8} {u:Tg.Ur.Url}
theorem dd_small {n:Nat} (h:n<10):Lib.decDigits n= [([48,49,50,51,52,53,54,55,56,57]:List UInt8).getD n 0]:=by
 have key: ∀k:Fin 10,UInt8.ofNat (48+k.1)=([48,49,50,51,52,53,54,55,56,57]:List UInt8).getD k.1 0:=by decide
 rw [Lib.decDigits,dif_pos h,key ⟨n,h⟩]
theorem dd_big {n:Nat} (h: ¬n<10):Lib.decDigits n=Lib.decDigits (n/10)++Lib.decDigits (n%10):=by
 conv=>lhs;rw [Lib.decDigits,dif_neg h]
 rw [show Lib.decDigits (n%10)= [UInt8.ofNat (48+n%10)] by rw [Lib.decDigits,dif_pos (by omega)]]
end
end Go.Proofs.YteeiipildjgdbaaGreatDoor
namespace Go.Proofs.YteeiipildjgdbaaGreatDoor.Sc
open Go.Lg Go.Tg
section
variable {H H':LH} {s:List UInt8} {v p:Value} {xs:List (List UInt8)} {c:Tg.Sc.Setup} {l:List Tg.Hd.Hdr} {e:Tg.Sc.Ev}
end
section
variable {H H':LH} {s:List UInt8} {v p:Value} {xs:List (List UInt8)} {c:Tg.Sc.Setup} {l:List Tg.Sc.Ev} {e:Tg.Sc.Ev} {N:Nat}
end
section
variable {H H':LH} {s:List UInt8} {v p:Value} {xs:List (List UInt8)} {c:Tg.Sc.Setup} {l:List Tg.Sc.Ev} {e:Tg.Sc.Ev} {N:Nat}
end
end Go.Proofs.YteeiipildjgdbaaGreatDoor.Sc
namespace Tg.Sc
open Go.Lib (itoa)
structure Out where
 kind:Int
 id:Int
 status:Int
 hdrs:List Tg.Hd.Hdr
 body:List UInt8
 reason:List UInt8
deriving DecidableEq
def told (o:Out):List (List UInt8):=
 if o.kind<1∨6<o.kind then []
 else if o.kind=1 then headsL kwHead o.id o.status o.hdrs
 else if o.kind=2 then [wl [kwBody,itoa o.id,esc o.body]]
 else if o.kind=3 then [wl [kwEnd,itoa o.id]]
 else [wl [if o.kind=4 then kwBlock else if o.kind=5 then kwFail else kwRefused,itoa o.id,esc o.reason]]
end Tg.Sc
namespace Go.Proofs.YteeiipildjgdbaaGreatDoor.Sc
open Go.Lg Go.Tg
abbrev outv (o:Tg.Sc.Out) (p:Value):Value:=.agg #[.int .i64 o.kind,.int .i64 o.id,.int .i64 o.status,p,str o.body,str o.reason]
structure OutZ (o:Tg.Sc.Out):Prop where
 body:o.body.length≤300000
 reason:o.reason.length≤300000
 hn:o.hdrs.length≤90000
 hs: ∀h∈o.hdrs,h.1.length≤300000∧h.2.length≤300000
 k0: -9223372036854775808≤o.kind
 k1:o.kind≤9223372036854775807
 id0: -9223372036854775808≤o.id
 id1:o.id≤9223372036854775807
 st0: -9223372036854775808≤o.status
 st1:o.status≤9223372036854775807
section
variable {H H':LH} {s:List UInt8} {v w p:Value} {xs ys:List (List UInt8)} {o:Tg.Sc.Out} {l:List Tg.Hd.Hdr}
theorem told_ex (hr:HRow H p o.hdrs) (hz:OutZ o) (ht:Tab H) (h10:Tab10 H): ∃v H',LC Tryz.prog EJ 55 [outv o p] H=some (v,H')∧OutT H v H' (Tg.Sc.told o):=by
 obtain⟨pa,pn,pc,rfl⟩:=hr.slice
 have key: ∃r,LC Tryz.prog EJ 55 [outv o (.slice pa pn pc)] H=some (Lg.trunc H r)∧OutT H r.1 r.2 (Tg.Sc.told o):=by
  refine LC_runs (P:=Tryz.prog) (E:=EJ) (f:=55) rfl Tryz.func55 rfl (by kernel_rfl) ?_
  obtain⟨kind,id,status,hdrs,body,reason⟩:=o
  obtain⟨z1,z2,z3,z4,z5,z6,z7,z8,z9,z10⟩:=hz
  simp only at z1 z2 z3 z4 z5 z6 z7 z8 z9 z10 hr
  have n1:=Tg.Sc.itoa_short z7 z8
  have hes1:=fun H:LH=>escape_cl (H:=H) (s:=body) z1
  have hes2:=fun H:LH=>escape_cl (H:=H) (s:=reason) z2
  have l1:=Tg.Sc.esc_len body
  have l2:=Tg.Sc.esc_len reason
  obtain⟨Hb,hHb⟩: ∃Hb,Hb=H.new ⟨[.int .i64 kind,.int .i64 id,.int .i64 status,.slice pa pn pc,str body,str reason],53,true⟩:=⟨_,rfl⟩
  have hbn:Hb.n=H.n+1:=by rw [hHb];rfl
  have hbb:Bs H Hb:=by rw [hHb];exact⟨rfl,rfl⟩
  have hble:H.le Hb:=by rw [hHb];exact le_refl.new
  have gb:Hb.get H.n=some ⟨[.int .i64 kind,.int .i64 id,.int .i64 status,.slice pa pn pc,str body,str reason],53,true⟩:=by rw [hHb];exact get_new
  have hrb:HRow Hb (.slice pa pn pc) hdrs:=by rw [hHb];exact hr.new1
  have hwd:=outs_l (H:=Hb) (ht.bs hbb)
  unfold Tg.Sc.outsW at hwd
  simp only [List.map_cons,List.map_nil]at hwd
  obtain⟨Hc,hHc⟩: ∃Hc,Hc=Hb.new ⟨[str Tg.Sc.kwHead,str Tg.Sc.kwBody,str Tg.Sc.kwEnd,str Tg.Sc.kwBlock,str Tg.Sc.kwFail,str Tg.Sc.kwRefused],9,true⟩:=⟨_,rfl⟩
  rw [←hHc,hbn]at hwd
  have hcn:Hc.n=H.n+1+1:=by rw [hHc,n_new,hbn]
  have gw:Hc.get (H.n+1)=some ⟨[str Tg.Sc.kwHead,str Tg.Sc.kwBody,str Tg.Sc.kwEnd,str Tg.Sc.kwBlock,str Tg.Sc.kwFail,str Tg.Sc.kwRefused],9,true⟩:=by rw [hHc,←hbn];exact get_new
  have gc:Hc.get H.n=some ⟨[.int .i64 kind,.int .i64 id,.int .i64 status,.slice pa pn pc,str body,str reason],53,true⟩:=by rw [hHc,get_new_ne (by omega)];exact gb
  have hbc:Bs H Hc:=by rw [hHc];exact hbb
  have hcle:H.le Hc:=by rw [hHc];exact hble.new
  have hrc:HRow Hc (.slice pa pn pc) hdrs:=by rw [hHc];exact hrb.new1
  have t1:=scitoa (H:=Hc) z7 z8 (h10.bs hbc)
  have t1r:=scitoa (H:=Hc) z7 z8 (h10.bs (hbc.trans ⟨rfl,rfl⟩))
  obtain⟨v2,H2,e2,o2⟩:=heads_ex (s:=Tg.Sc.kwHead) (id:=id) (st:=status) hrc z3 z4 (by decide) z7 z8 z9 z10 (h10.bs hbc)
  unfold Tg.Sc.told
  simp only
  generalize Lib.itoa id=x1 at*
  have fin: ∀(s:List UInt8) (G:LH),H.le G→OutT H (sl G.n 1 1) (G.new ⟨[str s],9,true⟩) [s]:=fun s G hG=>⟨TRow.new (H:=G) (xs:= [s]) (c:=1) (Nat.le_refl _),hG.new⟩
  have bs1s:=fun(H:LH) (s:List UInt8)=>bs1s (H:=H) (s:=s)
  have hj3:=fun(w x:List UInt8) (hw:w.length≤100) (hx:x.length≤1000000)=>join_new (H:=Hc) (xs:= [w,x1,x]) (n:=3) rfl (by decide) (by decide) (by
   have:=wl_len (l:= [w,x1,x]) (m:=1000000) (by simp;omega)
   simp at this;omega)
  simp only [List.map_cons,List.map_nil]at hj3
  by_cases hlo:kind<1
  ·have q:=eq_true hlo
   simp [←hHb,gb,q,hlo]
   exact⟨.inl ⟨rfl,rfl⟩,hble⟩
  by_cases hhi:6<kind
  ·have q:=eq_false hlo
   have q2:=eq_true hhi
   simp [←hHb,gb,q,q2,hhi]
   exact⟨.inl ⟨rfl,rfl⟩,hble⟩
  have hk:kind=1∨kind=2∨kind=3∨kind=4∨kind=5∨kind=6:=by omega
  clear hlo hhi
  rcases hk with rfl|rfl|rfl|rfl|rfl|rfl
  ·simp [←hHb,hwd,gb,gw,gc,t1,t1r,e2]
   exact⟨o2.row,le_trans hcle o2.le⟩
  ·have hj:=hj3 Tg.Sc.kwBody (Tg.Sc.esc body) (by decide) (by omega)
   simp [←hHb,hwd,gb,gw,gc,t1,t1r,hes1,hj,bs1s]
   exact fin _ (Hc.new _) hcle.new
  ·have hj:=join_new (H:=Hc) (xs:= [Tg.Sc.kwEnd,x1]) (n:=2) rfl (by decide) (by decide) (by
    have:=wl_len (l:= [Tg.Sc.kwEnd,x1]) (m:=100) (by simp [Tg.Sc.kwEnd];omega)
    simp at this;omega)
   simp only [List.map_cons,List.map_nil]at hj
   simp [←hHb,hwd,gb,gw,gc,t1,t1r,hj,bs1s]
   exact fin _ (Hc.new _) hcle.new
  ·have hj:=hj3 Tg.Sc.kwBlock (Tg.Sc.esc reason) (by decide) (by omega)
   simp [←hHb,hwd,gb,gw,gc,t1,t1r,hes2,hj,bs1s]
   exact fin _ (Hc.new _) hcle.new
  ·have hj:=hj3 Tg.Sc.kwFail (Tg.Sc.esc reason) (by decide) (by omega)
   simp [←hHb,hwd,gb,gw,gc,t1,t1r,hes2,hj,bs1s]
   exact fin _ (Hc.new _) hcle.new
  ·have hj:=hj3 Tg.Sc.kwRefused (Tg.Sc.esc reason) (by decide) (by omega)
   simp [←hHb,hwd,gb,gw,gc,t1,t1r,hes2,hj,bs1s]
   exact fin _ (Hc.new _) hcle.new
 obtain⟨r,e,ho⟩:=key
 obtain⟨H2,e2,ho2⟩:=ho.trunc
 exact⟨r.1,H2,by rw [e,←e2],ho2⟩
end
end Go.Proofs.YteeiipildjgdbaaGreatDoor.Sc
namespace Go.Lg
open Go.Tg Go.RowKit
def Keeps (N:Nat) (S:TypeId→Prop) (H H':LH):Prop:=H.n≤H'.n∧ ∀k b,k<H.n→H.get k=some b→k<N∨S b.elem→H'.get k=some b
structure El (α:Type) where
 n:Nat
 S:TypeId→Prop
 ok:Nat→LH→List Value→α→Prop
 len: ∀ {N H cs a},ok N H cs a→cs.length=n
 cell: ∀ {N H cs a},ok N H cs a→cs.all cellB=true
 keep: ∀ {N H H' cs a},Keeps N S H H'→ok N H cs a→ok N H' cs a
 ro: ∀ {N H cs a},ok N H cs a→ok N H.ro cs a
def El.flat {α:Type} (n:Nat) (f:α→List Value) (h1: ∀a,(f a).length=n) (h2: ∀a,(f a).all cellB=true):El α:=
 ⟨n,fun _=>False,fun _ _ cs a=>cs=f a,fun h=>by rw [h];exact h1 _,fun h=>by rw [h];exact h2 _,fun _ h=>h,fun h=>h⟩
def RowG {α:Type} (E:El α) (e:TypeId) (N:Nat) (H:LH) (v:Value) (l:List α):Prop:=
 (v=.slice none 0 0∧l= [])∨ ∃(k o c:Nat) (b:LB),v=.slice (some ⟨k,o,none⟩) l.length c∧H.get k=some b∧k<H.n∧(k<N∨b.elem=e)∧o+l.length*E.n≤b.cells.length∧ ∀(i:Nat) (h:i<l.length),E.ok N H ((b.cells.drop (o+i*E.n)).take E.n) l[i]
def OwnG {α:Type} (E:El α) (e:TypeId) (N M:Nat) (H:LH) (v:Value) (l:List α):Prop:=
 ∃xs,RowN M H e E.n v l.length xs∧ ∀(i:Nat) (h:i<l.length),E.ok N H ((xs.drop (i*E.n)).take E.n) l[i]
section
variable {α:Type} {E:El α} {P:Program} {H H' H1:LH} {v x:Value} {l:List α} {a:α} {e t u:TypeId} {N M k:Nat} {S S':TypeId→Prop} {b:LB} {cs:List Value}
theorem Keeps.refl:Keeps N S H H:=⟨Nat.le_refl _,fun _ _ _ h _=>h⟩
theorem Keeps.le (h:H.le H'):Keeps N S H H':=⟨h.1,fun k b hk hb _=>by rw [h.2 k hk];exact hb⟩
theorem Keeps.trans (h:Keeps N S H H1) (g:Keeps N S H1 H'):Keeps N S H H':=⟨Nat.le_trans h.1 g.1,fun k b hk hb hs=>g.2 k b (Nat.lt_of_lt_of_le hk h.1) (h.2 k b hk hb hs) hs⟩
theorem Keeps.weak (h:Keeps N S H H') (hs: ∀t,S' t→S t):Keeps N S' H H':=⟨h.1,fun k b hk hb g=>h.2 k b hk hb (g.imp_right (hs _))⟩
theorem Keeps.new:Keeps N S H (H.new b):=⟨Nat.le_succ _,fun k b hk hb _=>by rw [get_new_ne (by omega)];exact hb⟩
theorem RowG.nil:RowG E e N H (.slice none 0 0) []:=.inl ⟨rfl,rfl⟩
theorem RowG.keep (h:RowG E e N H v l) (hk:Keeps N (fun t=>t=e∨E.S t) H H'):RowG E e N H' v l:=by
 rcases h with h|⟨k,o,c,b,h1,g1,g2,g3,g5,g4⟩
 ·exact .inl h
 ·exact .inr ⟨k,o,c,b,h1,hk.2 k b g2 g1 (g3.imp_right .inl),Nat.lt_of_lt_of_le g2 hk.1,g3,g5,fun i hi=>E.keep (hk.weak fun t=>.inr) (g4 i hi)⟩
theorem RowG.le (h:RowG E e N H v l) (hk:H.le H'):RowG E e N H' v l:=h.keep (.le hk)
theorem RowG.ro (h:RowG E e N H v l):RowG E e N H.ro v l:=by
 rcases h with h|⟨k,o,c,b,h1,g1,g2,g3,g5,g4⟩
 ·exact .inl h
 ·exact .inr ⟨k,o,c,{ b with rw:=false },h1,by rw [get_ro,g1];rfl,by rw [n_ro];exact g2,g3,g5,fun i hi=>E.ro (g4 i hi)⟩
theorem RowG.keep1 {c:Nat} (h:RowG E e N H v l) (hn:H.n≤H'.n) (hc:H.get c=some b) (hne:b.elem≠e) (hS: ¬E.S b.elem) (hN:N≤c) (hk: ∀k,k<H.n→k≠c→H'.get k=H.get k):RowG E e N H' v l:=
 h.keep ⟨hn,fun k b' hkn hb hor=>by
  by_cases hkc:k=c
  ·subst hkc
   rw [hc]at hb
   injection hb with hb
   subst hb
   rcases hor with h1|h1|h1
   ·omega
   ·exact absurd h1 hne
   ·exact absurd h1 hS
  ·rw [hk k hkn hkc];exact hb⟩
theorem RowG.slice (h:RowG E e N H v l): ∃ad n c,v=.slice ad n c:=by
 rcases h with⟨rfl,_⟩|⟨k,o,c,b,rfl,_⟩<;>exact⟨_,_,_,rfl⟩
theorem RowG.len (h:RowG E e N H v l) (hu:P.underlying t=some (.slice e)):lbuiltin P .len [t] [v] H'=some (.int .i64 l.length,H'):=by
 rcases h with⟨rfl,rfl⟩|⟨k,o,c,b,rfl,h2⟩
 ·exact lbuiltin_len_slice hu
 ·exact lbuiltin_len_slice hu
theorem RowG.cell (h:RowG E e N H v l):cellB v=true:=by
 obtain⟨ad,n,c,rfl⟩:=h.slice;simp
theorem RowG.flat (h:RowG E e N H v l) (hf:flatB v=true):RowG E e N H' v l:=by
 rcases h with h|⟨k,o,c,b,rfl,_⟩
 ·exact .inl h
 ·simp [flatB,flat1B,atomB]at hf
theorem RowG.at (h:RowG E e N H v l) (hu:P.underlying t=some (.slice e)) (hs:sz P e=some E.n) {i:Nat} (hi:i<l.length): ∃k o cs,(∀H':LH,lixa P t v (.int .i64 i) H'=some (ptr k o,H'))∧k<H.n∧E.ok N H cs l[i]∧ ∀H':LH,H'.get k=H.get k→
  (aggB P e=some true→lld P e (ptr k o) H'=some (.agg cs.toArray))∧(∀(j:Nat) (u:TypeId) (x:Value),aggB P u=some false→cs[j]?=some x→lld P u (ptr k (o+j)) H'=some x)∧(∀(j m:Nat) (u:TypeId),aggB P u=some true→sz P u=some m→j+m≤E.n→lld P u (ptr k (o+j)) H'=some (.agg ((cs.drop j).take m).toArray)):=by
 rcases h with⟨rfl,rfl⟩|⟨k,o,c,b,rfl,g1,g2,g3,g0,g4⟩
 ·simp at hi
 ·have g6:=g4 i hi
  have hm:i*E.n+E.n≤l.length*E.n:=by rw [←Nat.succ_mul];exact Nat.mul_le_mul_right _ hi
  have g5:o+i*E.n+E.n≤b.cells.length:=by omega
  refine⟨k,o+i*E.n,_,fun H'=>?_,g2,g6,fun H' he=>?_⟩
  ·rw [lixa_row hu hs (by omega) (by omega)]
   simp
  ·rw [g1]at he
   refine⟨fun ha=>?_,fun j u x ha hx=>?_,fun j m u ha hm hj=>?_⟩
   ·rw [lld_ptr he,ha,hs,lldb_agg g5]
   ·rw [lld_ptr he,ha,lldb_cell]
    rw [List.getElem?_take]at hx
    split at hx
    ·rw [List.getElem?_drop]at hx;exact hx
    ·cases hx
   ·rw [lld_ptr he,ha,hm,lldb_agg (by omega),List.drop_take,List.take_take,List.drop_drop,Nat.min_eq_left (by omega)]
theorem RowG.src (h:RowG E e N H v l) (hu:P.underlying t=some (.slice e)) (hs:lesz P e=some E.n): ∃xs,lesrc P t v H=some (l.length,xs)∧xs.length=l.length*E.n∧xs.all cellB=true∧ ∀(i:Nat) (h:i<l.length),E.ok N H ((xs.drop (i*E.n)).take E.n) l[i]:=by
 rcases h with⟨rfl,rfl⟩|⟨k,o,c,b,rfl,g1,g2,g3,g0,g4⟩
 ·exact⟨[],lesrc_nil hu hs,by simp,rfl,fun i hi=>by simp at hi⟩
 ·have hi2: ∀(i:Nat) (h:i<l.length),((((b.cells.drop o).take (l.length*E.n)).drop (i*E.n)).take E.n)=(b.cells.drop (o+i*E.n)).take E.n:=fun i hi=>by
   have hm:i*E.n+E.n≤l.length*E.n:=by rw [←Nat.succ_mul];exact Nat.mul_le_mul_right _ hi
   rw [List.drop_take,List.take_take,List.drop_drop,Nat.min_eq_left (by omega)]
  have hl:((b.cells.drop o).take (l.length*E.n)).length=l.length*E.n:=by rw [List.length_take,List.length_drop];omega
  refine⟨_,lesrc_row hu hs g1 g0,hl,?_,fun i hi=>by rw [hi2 i hi];exact g4 i hi⟩
  rw [List.all_eq_true]
  intro x hx
  obtain⟨q,hq,rfl⟩:=List.getElem_of_mem hx
  rw [hl]at hq
  have hn0:0<E.n:=by rcases Nat.eq_zero_or_pos E.n with h|h;rw [h]at hq;omega;exact h
  have hil:q/E.n<l.length:=by rw [Nat.div_lt_iff_lt_mul hn0];exact hq
  have hc:=E.cell (g4 _ hil)
  rw [←hi2 _ hil,List.all_eq_true]at hc
  refine hc _ ?_
  have hd:q=q/E.n*E.n+q%E.n:=by rw [Nat.mul_comm];exact(Nat.div_add_mod q E.n).symm
  have hmod:q%E.n<E.n:=Nat.mod_lt _ hn0
  have hm:q/E.n*E.n+E.n≤l.length*E.n:=by rw [←Nat.succ_mul];exact Nat.mul_le_mul_right _ hil
  generalize (b.cells.drop o).take (l.length*E.n)=ys at*
  rw [List.mem_iff_getElem]
  refine⟨q%E.n,by rw [List.length_take,List.length_drop];omega,?_⟩
  rw [List.getElem_take,List.getElem_drop]
  congr 1
  exact hd.symm
theorem OwnG.nil:OwnG E e N M H (.slice none 0 0) []:=⟨[],RowN.nil,fun i h=>by simp at h⟩
theorem OwnG.row (h:OwnG E e N M H v l):RowG E e N H v l:=by
 obtain⟨xs,h1,h2⟩:=h
 have hl:=h1.1
 rcases h1.2 with⟨rfl,h0⟩|⟨k,c,rest,rfl,g1,g2,g3,g4,g5⟩
 ·exact .inl ⟨rfl,List.eq_nil_of_length_eq_zero h0⟩
 ·refine .inr ⟨k,0,c,_,rfl,g3,g2,.inr rfl,by rw [List.length_append,hl];omega,fun i hi=>?_⟩
  have hm:i*E.n+E.n≤l.length*E.n:=by rw [←Nat.succ_mul];exact Nat.mul_le_mul_right _ hi
  simp only [Nat.zero_add]
  rw [List.drop_append_of_le_length (by omega),List.take_append_of_le_length (by rw [List.length_drop];omega)]
  exact h2 i hi
theorem OwnG.off_lt (h:OwnG E e N M H v l) (hk:k<M):offRow v k:=by obtain⟨xs,h1,_⟩:=h;exact h1.off_lt hk
theorem OwnG.off_elem (h:OwnG E e N M H v l) (hk:H.get k=some b) (hne:b.elem≠e):offRow v k:=by obtain⟨xs,h1,_⟩:=h;exact h1.off_of_elem hk hne
theorem OwnG.off_ge (h:OwnG E e N M H v l) (hk:H.n≤k):offRow v k:=by obtain⟨xs,h1,_⟩:=h;exact h1.off_ge hk
theorem OwnG.keep (h:OwnG E e N M H v l) (hk:Keeps N E.S H H') (hr: ∀k,M≤k→ ¬offRow v k→k<H.n→H'.get k=H.get k):OwnG E e N M H' v l:=by
 obtain⟨xs,h1,h2⟩:=h
 exact⟨xs,h1.keep hk.1 hr,fun i hi=>E.keep hk (h2 i hi)⟩
theorem OwnG.le (h:OwnG E e N M H v l) (hk:H.le H'):OwnG E e N M H' v l:=h.keep (.le hk) fun k _ _ hk2=>hk.2 k hk2
theorem OwnG.keep1 {c:Nat} (h:OwnG E e N M H v l) (hn:H.n≤H'.n) (hc:H.get c=some b) (hne:b.elem≠e) (hS: ¬E.S b.elem) (hN:N≤c) (hk: ∀k,k<H.n→k≠c→H'.get k=H.get k):OwnG E e N M H' v l:=
 h.keep ⟨hn,fun k b' hkn hb hor=>by
  by_cases hkc:k=c
  ·subst hkc
   rw [hc]at hb
   injection hb with hb
   subst hb
   rcases hor with h1|h1
   ·omega
   ·exact absurd h1 hS
  ·rw [hk k hkn hkc];exact hb⟩ fun k _ hno hkn=>hk k hkn fun e=>hno (e▸h.off_elem hc hne)
theorem OwnG.cell (h:OwnG E e N M H v l):cellB v=true:=by obtain⟨xs,h1,_⟩:=h;exact h1.cell
theorem OwnG.weak {M':Nat} (h:OwnG E e N M H v l) (hm:M'≤M):OwnG E e N M' H v l:=by
 obtain⟨xs,h1,h2⟩:=h
 refine⟨xs,⟨h1.1,?_⟩,h2⟩
 rcases h1.2 with h3|⟨k,c,rest,rfl,g1,g2⟩
 ·exact .inl h3
 ·exact .inr ⟨k,c,rest,rfl,Nat.le_trans hm g1,g2⟩
theorem OwnG.flat (h:OwnG E e N M H' v l) (hf:flatB v=true):OwnG E e N M H v l:=by
 obtain⟨xs,h1,h2⟩:=h
 rcases h1.2 with⟨rfl,h0⟩|⟨k,c,rest,rfl,_⟩
 ·obtain rfl:=List.eq_nil_of_length_eq_zero h0
  exact .nil
 ·simp [flatB,flat1B,atomB]at hf
theorem OwnG.app (h:OwnG E e N M H v l) (hu:P.underlying t=some (.slice e)) (hs:lesz P e=some E.n) (hN:N≤M) (hM:M≤H.n) (hl:l.length+1≤maxElems) (hc:E.ok N H cs a) (hS: ¬E.S e):
  ∃v' H2,lapp P t v (some (1,cs)) (H.new ⟨cs,e,true⟩)=some (v',H2)∧OwnG E e N M H2 v' (l++ [a])∧H.n<H2.n∧(∀k,k<H.n→offRow v k→H2.get k=H.get k)∧(∀k,k<H.n→offRow v k→offRow v' k)∧Keeps N (fun t=>t≠e) H H2:=by
 have h':=h.le (H':=H.new ⟨cs,e,true⟩) le_refl.new
 have hc':=E.keep (.le (H':=H.new ⟨cs,e,true⟩) le_refl.new) hc
 obtain⟨xs,h1,h2⟩:=h'
 obtain⟨v',H2,ha,hr,hk,hf⟩:=RowN.app (P:=P) (t:=t) (new:=cs) (m:=1) h1 hu hs (E.cell hc) (by rw [E.len hc,Nat.one_mul]) hl (by rw [n_new];omega) (.inl (Nat.le_refl 1))
 have kp:Keeps N (fun t=>t≠e) (H.new ⟨cs,e,true⟩) H2:=⟨hk.le,fun k b hkn hb hor=>by
  rw [←hb]
  refine hk.get k hkn ?_
  rcases hor with hor|hor
  ·exact h1.off_lt (by omega)
  ·exact h1.off_of_elem hb hor⟩
 refine⟨v',H2,ha,⟨xs++cs,by rw [List.length_append];exact hr,fun i hi=>?_⟩,?_,fun k hkn ho=>?_,fun k hkn ho=>hk.off k (by rw [n_new];omega) ho,Keeps.new.trans kp⟩
 ·have kS:Keeps N E.S (H.new ⟨cs,e,true⟩) H2:=kp.weak fun t ht he=>hS (he▸ht)
  have hxl:xs.length=l.length*E.n:=h1.1
  rcases Nat.lt_or_ge i l.length with hil|hil
  ·have hm:i*E.n+E.n≤l.length*E.n:=by rw [←Nat.succ_mul];exact Nat.mul_le_mul_right _ hil
   rw [List.drop_append_of_le_length (by omega),List.take_append_of_le_length (by rw [List.length_drop];omega),List.getElem_append_left hil]
   exact E.keep kS (h2 i hil)
  ·have hie:i=l.length:=by rw [List.length_append]at hi;simp at hi;omega
   subst hie
   rw [←hxl,List.drop_left,List.take_of_length_le (by rw [E.len hc];exact Nat.le_refl _),List.getElem_append_right (by omega)]
   simpa using E.keep kS hc'
 ·have:=hk.le;rw [n_new]at this;omega
 ·rw [hk.get k (by rw [n_new];omega) ho,get_new_ne (by omega)]
end
section
variable {α:Type} {E:El α} {P:Program} {H H':LH} {v w:Value} {l:List α} {e t:TypeId} {N M:Nat}
theorem OwnG.copy (h:RowG E e N H w l) (hu:P.underlying t=some (.slice e)) (hs:lesz P e=some E.n) (hl:l.length≤maxElems) (hM:M≤H.n):
  ∃v' H2,lapp P t (sl H.n 0 0) (lesrc P t w (H.new ⟨[],e,true⟩)) (H.new ⟨[],e,true⟩)=some (v',H2)∧OwnG E e N M H2 v' l∧H.le H2:=by
 have h':=h.le (H':=H.new ⟨[],e,true⟩) le_refl.new
 obtain⟨xs,x1,x2,x3,x4⟩:=h'.src hu hs
 have h1:RowN H.n (H.new ⟨[],e,true⟩) e E.n (sl H.n 0 0) 0 []:=⟨by simp,.inr ⟨H.n,0,[],rfl,Nat.le_refl _,by simp,by simp,Nat.le_refl _,by simp⟩⟩
 obtain⟨v',H2,ha,hr,hk,hf⟩:=RowN.app (P:=P) (t:=t) (new:=xs) (m:=l.length) h1 hu hs x3 x2 (by omega) (by rw [n_new];omega) (.inr full_new)
 rw [x1]
 have hle:H.le H2:=⟨by have:=hk.le;rw [n_new]at this;omega,fun k hkn=>by rw [hk.get k (by rw [n_new];omega) (h1.off_lt hkn),get_new_ne (by omega)]⟩
 refine⟨v',H2,ha,⟨xs,?_,fun i hi=>?_⟩,hle⟩
 ·rw [Nat.zero_add,List.nil_append]at hr
  refine⟨hr.1,?_⟩
  rcases hr.2 with h2|⟨k,c,rest,rfl,g1,g2,g3,g4,g5⟩
  ·exact .inl h2
  ·exact .inr ⟨k,c,rest,rfl,by omega,g2,g3,g4,g5⟩
 ·obtain⟨ys,y1,y2,y3,y4⟩:=h.src hu hs
  have hxy:lesrc P t w (H.new ⟨[],e,true⟩)=lesrc P t w H:=by
   rcases h with⟨rfl,rfl⟩|⟨k,o,c,b,rfl,g1,g2,g3,g0,g4⟩
   ·rw [lesrc_nil hu hs,lesrc_nil hu hs]
   ·rw [lesrc_row hu hs g1 g0,lesrc_row hu hs (by rw [get_new_ne (by omega)];exact g1) g0]
  rw [hxy,y1]at x1
  injection x1 with x1
  injection x1 with _ x1
  subst x1
  exact E.keep (.le hle) (y4 i hi)
end
theorem splice_nth {xs cs:List Value} {o q:Nat} (h:o+cs.length≤xs.length):(splice xs o cs)[q]?=if q<o then xs[q]? else if q<o+cs.length then cs[q-o]? else xs[q]?:=by
 unfold splice
 have e1:(xs.take o).length=o:=by rw [List.length_take];omega
 rw [List.append_assoc,List.getElem?_append,e1]
 split
 ·rename_i hq;rw [List.getElem?_take,if_pos hq]
 ·rename_i hq
  rw [List.getElem?_append]
  by_cases h2:q<o+cs.length
  ·rw [if_pos (by omega),if_pos h2]
  ·rw [if_neg (by omega),if_neg h2,List.getElem?_drop]
   congr 1;omega
theorem splice_len {xs cs:List Value} {o:Nat} (h:o+cs.length≤xs.length):(splice xs o cs).length=xs.length:=by unfold splice;simp;omega
theorem zero_all {z:Array Value} {q:Nat} {p:Value→Bool} (h:z.toList.all p=true):(Builtin.zeroCells z q).toList.all p=true:=by
 rw [List.all_eq_true]at h⊢
 intro x hx
 unfold Builtin.zeroCells at hx
 simp only [Array.toList_map,Array.toList_range,List.mem_map,List.mem_range]at hx
 obtain⟨i,hi,rfl⟩:=hx
 have hz:0<z.size:=by
  rcases Nat.eq_zero_or_pos z.size with h0|h0
  ·rw [h0,Nat.mul_zero]at hi;omega
  ·exact h0
 have hm:=Nat.mod_lt i hz
 rw [getElem!_pos z _ hm]
 exact h _ (by simp)
theorem zero_size {z:Array Value} {q:Nat} :(Builtin.zeroCells z q).toList.length=q*z.size:=by
 unfold Builtin.zeroCells
 simp
section
variable {α:Type} {E:El α} {P:Program} {H H':LH} {v w x:Value} {l:List α} {a a':α} {e t u:TypeId} {N M i:Nat} {cs:List Value}
theorem OwnG.spot (h:OwnG E e N M H v l) (hi:i<l.length) (hN:N≤M) (hS: ¬E.S e): ∃k c zs,v=.slice (some ⟨k,0,none⟩) l.length c∧M≤k∧k<H.n∧H.get k=some ⟨zs,e,true⟩∧i*E.n+E.n≤zs.length∧E.ok N H ((zs.drop (i*E.n)).take E.n) l[i]∧
  ∀cs a',E.ok N H cs a'→OwnG E e N M (H.set k ⟨splice zs (i*E.n) cs,e,true⟩) v (l.set i a'):=by
 obtain⟨xs,⟨h0,h1⟩,h2⟩:=h
 rcases h1 with⟨rfl,hl⟩|⟨k,c,rest,rfl,g1,g2,g3,g4,g5⟩
 ·omega
 have hm: ∀j,j<l.length→j*E.n+E.n≤xs.length:=fun j hj=>by rw [h0,←Nat.succ_mul];exact Nat.mul_le_mul_right _ hj
 have hmi:=hm i hi
 refine⟨k,c,xs++rest,rfl,g1,g2,g3,by rw [List.length_append];omega,?_,fun cs a' hc=>?_⟩
 ·rw [List.drop_append_of_le_length (by omega),List.take_append_of_le_length (by rw [List.length_drop];omega)]
  exact h2 i hi
 ·have hcl:=E.len hc
  have hkp:Keeps N E.S H (H.set k ⟨splice (xs++rest) (i*E.n) cs,e,true⟩):=⟨Nat.le_refl _,fun j b hj hb hor=>by
   by_cases hjk:j=k
   ·subst hjk
    rw [g3]at hb
    injection hb with hb
    subst hb
    rcases hor with h|h
    ·omega
    ·exact absurd h hS
   ·rw [get_set_ne hjk];exact hb⟩
  have es:splice (xs++rest) (i*E.n) cs=splice xs (i*E.n) cs++rest:=by
   unfold splice
   rw [List.take_append_of_le_length (by omega),List.drop_append_of_le_length (by omega)]
   simp
  have el:=splice_len (xs:=xs) (cs:=cs) (o:=i*E.n) (by omega)
  refine⟨splice xs (i*E.n) cs,⟨by rw [List.length_set,el];exact h0,.inr ⟨k,c,rest,by rw [List.length_set],g1,g2,by rw [get_set,es],by rw [List.length_set];exact g4,by rw [List.length_append,el,←List.length_append];exact g5⟩⟩,fun j hj=>?_⟩
  rw [List.length_set]at hj
  have hmj:=hm j hj
  rw [List.getElem_set]
  split
  ·rename_i e1
   subst e1
   have:((splice xs (i*E.n) cs).drop (i*E.n)).take E.n=cs:=by
    apply List.ext_getElem?
    intro q
    rw [List.getElem?_take,List.getElem?_drop,splice_nth (by omega)]
    split
    ·rw [if_neg (by omega),if_pos (by omega)];congr 1;omega
    ·rw [List.getElem?_eq_none (by omega)]
   rw [this]
   exact E.keep hkp hc
  ·rename_i hne
   have hd:j*E.n+E.n≤i*E.n∨i*E.n+E.n≤j*E.n:=by
    rcases Nat.lt_or_gt_of_ne hne with h|h
    ·right;rw [←Nat.succ_mul];exact Nat.mul_le_mul_right _ h
    ·left;rw [←Nat.succ_mul];exact Nat.mul_le_mul_right _ h
   have:((splice xs (i*E.n) cs).drop (j*E.n)).take E.n=(xs.drop (j*E.n)).take E.n:=by
    apply List.ext_getElem?
    intro q
    rw [List.getElem?_take,List.getElem?_drop,splice_nth (by omega),List.getElem?_take,List.getElem?_drop]
    split
    ·by_cases h1:j*E.n+q<i*E.n
     ·rw [if_pos h1]
     ·rw [if_neg h1,if_neg (by omega)]
    ·rfl
   rw [this]
   exact E.keep hkp (h2 j hj)
theorem OwnG.keepO {c:Nat} {b:LB} (h:OwnG E e N M H v l) (hn:H.n≤H'.n) (ho:offRow v c) (hc:H.get c=some b) (hS: ¬E.S b.elem) (hN:N≤c) (hk: ∀k,k<H.n→k≠c→H'.get k=H.get k):OwnG E e N M H' v l:=
 h.keep ⟨hn,fun k b' hkn hb hor=>by
  by_cases hkc:k=c
  ·subst hkc
   rw [hc]at hb
   injection hb with hb
   subst hb
   rcases hor with h1|h1
   ·omega
   ·exact absurd h1 hS
  ·rw [hk k hkn hkc];exact hb⟩ fun k _ hno hkn=>hk k hkn fun e=>hno (e▸ho)
theorem OwnG.sto (h:OwnG E e N M H v l) (hi:i<l.length) (hN:N≤M) (hS: ¬E.S e) (hu:P.underlying t=some (.slice e)) (hs:sz P e=some E.n): ∃k cs,(∀H':LH,lixa P t v (.int .i64 i) H'=some (ptr k (i*E.n),H'))∧M≤k∧k<H.n∧ ¬offRow v k∧(∃b,H.get k=some b∧b.elem=e)∧E.ok N H cs l[i]∧
  (∀H':LH,H'.get k=H.get k→(aggB P e=some true→lld P e (ptr k (i*E.n)) H'=some (.agg cs.toArray))∧ ∀(j:Nat) (u:TypeId) (x:Value),aggB P u=some false→cs[j]?=some x→lld P u (ptr k (i*E.n+j)) H'=some x)∧
  (∀(j:Nat) (x:Value) (u:TypeId) (a':α),j<E.n→sz P u=some 1→cellB x=true→E.ok N H (cs.set j x) a'→ ∃H2,lst P u (ptr k (i*E.n+j)) x H=some (undef,H2)∧OwnG E e N M H2 v (l.set i a')∧H2.n=H.n∧ ∀q,q≠k→H2.get q=H.get q)∧
  (∀(vs:List Value) (a':α),E.ok N H vs a'→ ∃H2,lst P e (ptr k (i*E.n)) (.agg ⟨vs⟩) H=some (undef,H2)∧OwnG E e N M H2 v (l.set i a')∧H2.n=H.n∧ ∀q,q≠k→H2.get q=H.get q):=by
 obtain⟨k,c,zs,rfl,g1,g2,g3,g4,g5,g6⟩:=h.spot hi hN hS
 refine⟨k,_,fun H'=>?_,g1,g2,fun ho=>ho _ _ rfl,⟨_,g3,rfl⟩,g5,fun H' he=>⟨fun ha=>?_,fun j u x ha hx=>?_⟩,fun j x u a' hj hsu hx ho=>?_,fun vs a' ho=>?_⟩
 ·rw [lixa_row hu hs (by omega) (by omega)];simp
 ·rw [g3]at he
  rw [lld_ptr he,ha,hs,lldb_agg g4]
 ·rw [g3]at he
  rw [lld_ptr he,ha,lldb_cell]
  rw [List.getElem?_take]at hx
  split at hx
  ·rw [List.getElem?_drop]at hx;exact hx
  ·cases hx
 ·have e1:zs.set (i*E.n+j) x=splice zs (i*E.n) (((zs.drop (i*E.n)).take E.n).set j x):=by
   apply List.ext_getElem?
   intro q
   rw [splice_nth (by simp;omega)]
   simp only [List.length_set,List.length_take,List.length_drop,List.getElem?_set,List.getElem?_take,List.getElem?_drop]
   by_cases h1:q<i*E.n
   ·rw [if_pos h1,if_neg (by omega)]
   ·rw [if_neg h1]
    by_cases h2:q<i*E.n+min E.n (zs.length-i*E.n)
    ·rw [if_pos h2]
     by_cases h3:i*E.n+j=q
     ·rw [if_pos h3,if_pos (by omega),if_pos (by omega),if_pos (by omega)]
     ·rw [if_neg h3,if_neg (by omega),if_pos (by omega)]
      congr 1;omega
    ·rw [if_neg h2,if_neg (by omega)]
  refine⟨_,lst_cell g3 rfl hsu hx (by show i*E.n+j<zs.length;omega),?_,rfl,fun q hq=>get_set_ne hq⟩
  rw [e1]
  exact g6 _ _ ho
 ·refine⟨_,lst_agg g3 rfl hs (E.len ho) (E.cell ho) g4,g6 _ _ ho,rfl,fun q hq=>get_set_ne hq⟩
theorem OwnG.clr (h:OwnG E e N M H v l) (hi:i<l.length) (hN:N≤M) (hS: ¬E.S e) (hu:P.underlying t=some (.slice e)) (hs:sz P e=some E.n) {z:Value} (hz:zr P e=some z) (hzn:z.cells.size=E.n) (hza:z.cells.toList.all (fun x=>cellB x&&flatB x)=true):
  ∃vd H2 v',lpart P t v (some (.int .i64 i)) none=some vd∧lclr P t vd H=some H2∧lpart P t v none (some (.int .i64 i))=some v'∧OwnG E e N M H2 v' (l.take i)∧H2.n=H.n∧ ∀j,offRow v j→H2.get j=H.get j:=by
 obtain⟨xs,⟨h0,h1⟩,h2⟩:=h
 rcases h1 with⟨rfl,hl⟩|⟨k,c,rest,rfl,g1,g2,g3,g4,g5⟩
 ·omega
 have hmi:i*E.n≤xs.length:=by rw [h0];exact Nat.mul_le_mul_right _ (by omega)
 have hsub:i*E.n+(l.length-i)*E.n=xs.length:=by rw [←Nat.add_mul,h0];congr 1;omega
 have hzl:(Builtin.zeroCells z.cells (l.length-i)).toList.length=(l.length-i)*E.n:=by rw [zero_size,hzn]
 refine⟨_,H.set k ⟨splice (xs++rest) (0+i*E.n) (Builtin.zeroCells z.cells (l.length-i)).toList,e,true⟩,_,lpart_row_sn hu hs (by omega) (by omega),?_,lpart_row_ns hu hs (by omega) (by omega),?_,rfl,fun j hj=>get_set_ne (fun e=>hj l.length c (by subst e;rfl))⟩
 ·unfold lclr
  rw [hu]
  simp only [Int.toNat_natCast]
  rw [if_neg (by omega),hz]
  simp only [g3]
  rw [if_pos]
  exact⟨trivial,zero_all hza,by rw [hzl,List.length_append];omega⟩
 ·have hkp:Keeps N E.S H (H.set k ⟨splice (xs++rest) (0+i*E.n) (Builtin.zeroCells z.cells (l.length-i)).toList,e,true⟩):=⟨Nat.le_refl _,fun j b hj hb hor=>by
   by_cases hjk:j=k
   ·subst hjk
    rw [g3]at hb
    injection hb with hb
    subst hb
    rcases hor with h|h
    ·omega
    ·exact absurd h hS
   ·rw [get_set_ne hjk];exact hb⟩
  have e1:splice (xs++rest) (0+i*E.n) (Builtin.zeroCells z.cells (l.length-i)).toList=xs.take (i*E.n)++((Builtin.zeroCells z.cells (l.length-i)).toList++rest):=by
   unfold splice
   rw [hzl,Nat.zero_add,List.take_append_of_le_length hmi,hsub,List.drop_left,List.append_assoc]
  have hil:(l.take i).length=i:=by rw [List.length_take];omega
  refine⟨xs.take (i*E.n),⟨by rw [List.length_take,hil];omega,.inr ⟨k,c,(Builtin.zeroCells z.cells (l.length-i)).toList++rest,by rw [Int.toNat_natCast,hil],g1,g2,by rw [get_set,e1],by rw [hil];omega,?_⟩⟩,fun j hj=>?_⟩
  ·rw [List.length_append,List.length_append,hzl,List.length_take]
   rw [List.length_append]at g5
   omega
  ·rw [hil]at hj
   have hmj:j*E.n+E.n≤i*E.n:=by rw [←Nat.succ_mul];exact Nat.mul_le_mul_right _ hj
   rw [List.drop_take,List.take_take,Nat.min_eq_left (by omega),List.getElem_take]
   exact E.keep hkp (h2 j (by omega))
end
section
variable {P:Program} {E:Ext} {f:FuncId} {args:List Value} {H H':LH}
def Gives (P:Program) (E:Ext) (f:FuncId) (args:List Value) (H:LH) (R:LH→Value→Prop):Prop:= ∃v H',LC P E f args H=some (v,H')∧H.le H'∧R H' v
theorem gives_of {R:LH→Value→Prop} (h: ∃r,LC P E f args H=some (trunc H r)∧(H.le r.2∧R r.2 r.1)) (hf: ∀v H',flatB v=true→R H' v→R H v):Gives P E f args H R:=by
 obtain⟨⟨v,H'⟩,h1,h2,h3⟩:=h
 rcases trunc_or v H H' with e|⟨e,g,_⟩
 ·exact⟨v,H',by rw [h1,e],h2,h3⟩
 ·exact⟨v,H,by rw [h1,e],le_refl,hf v H' g h3⟩
end
end Go.Lg
namespace Tg.Hd
def isP (name:List UInt8) (h:Hdr):Bool:=decide (Tg.Lo.lower h.1=Tg.Lo.lower name)
def goS (name val:List UInt8):List Hdr→Bool→List Hdr
 | [],_=> []
 |x::r,d=>if isP name x=false then x::goS name val r d else if d=true then goS name val r d else(x.1,val)::goS name val r true
def setP (name value:List UInt8) (l:List Hdr):List Hdr×Int:=
 if good l=true∧fine (name,trim value)=true then
  if l.any (isP name)=true then(goS name (trim value) l false,0)
  else if l.length=100 then([],3)else(l++ [(name,trim value)],0)
 else([],2)
end Tg.Hd
namespace Go.Proofs.YteeiipildjgdbaaGreatDoor
open Go.Lg Go.Tg
section
variable {H:LH} {v w:Value} {l m:List Tg.Hd.Hdr} {N:Nat} {s name value:List UInt8} {h:Tg.Hd.Hdr} {p:Nat}
theorem HOwn.weak {N':Nat} (h:HOwn N H v l) (hn:N'≤N):HOwn N' H v l:=by
 refine⟨h.1,?_⟩
 rcases h.2 with h2|⟨k,c,rest,rfl,g1,g2,g3,g4,g5⟩
 ·exact .inl h2
 ·exact .inr ⟨k,c,rest,rfl,by omega,g2,g3,g4,g5⟩
end
end Go.Proofs.YteeiipildjgdbaaGreatDoor
namespace Tg.Hd
end Tg.Hd
namespace Go.Proofs.YteeiipildjgdbaaGreatDoor
open Go.Lg Go.Tg
section
variable {H:LH} {b:UInt8} {s p:List UInt8}
end
section
variable {H:LH} {v w:Value} {l m:List Tg.Hd.Hdr} {N:Nat} {s name value:List UInt8} {h:Tg.Hd.Hdr} {p:Nat}
end
end Go.Proofs.YteeiipildjgdbaaGreatDoor
