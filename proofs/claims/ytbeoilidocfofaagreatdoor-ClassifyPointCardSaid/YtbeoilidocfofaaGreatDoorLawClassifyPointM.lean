/-
  The law ClassifyPoint of layer tidegatelaw36 holds of the given program: for every input the call returns true, and the input reads as it did. Condition: the listed package variables lie as the program's text lays them (the card ties them).
-/
import Derived.Test.YtbeoilidocfofaaGreatDoorRows
import Derived.Test.YtbeoilidocfofaaGreatDoorTie
import Derived.Test.YtbeoilidocfofaaGreatDoorCards
import Derived.Test.YtbeoilidocfofaaGreatDoorM1
import Derived.Test.YtbeoilidocfofaaGreatDoorM8
import Derived.WalkKit
import Derived.ProofKit
import Derived.OpenShut
import Derived.ShutString
import Derived.DataShut
import Derived.Stop.Joined
import Derived.SevenTiedAt
import Derived.LaidMore
import Derived.Lay
set_option linter.all false
namespace Go.Proofs.YtbeoilidocfofaaGreatDoor.classifyPoint
open Go.ChangeShapes Go.WideShapes Go.ChangeAt Go.RowKit Go.Tg Go.Lg Sn
open Go.ChangeMaps (open_string shut_string)
set_option maxRecDepth 100000
theorem C0:ownKnob Tryz.prog.godebug=none:=by kernel_rfl
theorem lifted (os:Os) (started:os.Started) (H:Type) (enc:TypeId×Value->H):
  ReturnsInHanded {} Tryz.checked os 4 .any (fun w args=>(Rows.classifyPointSpec.pre enc Tryz.prog Tryz.f4 [] false w args/\laidMetH Tryz.prog [("unicode/utf8.acceptRanges",Rows.laid_unicode_utf8_acceptRanges),("unicode.White_Space",Rows.laid_unicode_White_Space),("strings.asciiSpace",Rows.laid_strings_asciiSpace),("unicode/utf8.first",Rows.laid_unicode_utf8_first)] w)/\sizedMet enc Tryz.prog Tryz.f4 (OpenSpec.ofChange Rows.classifyPointSpec) false w args)
   (Rows.classifyPointSpec.post enc Tryz.prog Tryz.f4 false true false false):=by
 refine iW (C:=Tryz.checked) (X:=fun w _=>laidMetH Tryz.prog [("unicode/utf8.acceptRanges",Rows.laid_unicode_utf8_acceptRanges),("unicode.White_Space",Rows.laid_unicode_White_Space),("strings.asciiSpace",Rows.laid_strings_asciiSpace),("unicode/utf8.first",Rows.laid_unicode_utf8_first)] w) (fun _ _ _ hh h=>h.of_heap hh) C0 started (by kernel_rfl) Tryz.func4
  (ChangeSpec.witness_shaped (enc:=enc) (C:=Tryz.checked) (os:=os) (X:=fun w _=>laidMetH Tryz.prog [("unicode/utf8.acceptRanges",Rows.laid_unicode_utf8_acceptRanges),("unicode.White_Space",Rows.laid_unicode_White_Space),("strings.asciiSpace",Rows.laid_strings_asciiSpace),("unicode/utf8.first",Rows.laid_unicode_utf8_first)] w) false (World.laidAll Tryz.prog os [("unicode/utf8.acceptRanges",Rows.laid_unicode_utf8_acceptRanges),("unicode.White_Space",Rows.laid_unicode_White_Space),("strings.asciiSpace",Rows.laid_strings_asciiSpace),("unicode/utf8.first",Rows.laid_unicode_utf8_first)]) #[.agg #[.bool false,.int .i64 0,.int .i64 0,.string ByteArray.empty,.bool false,.bool false,.int .i64 0,.int .i64 0,.slice none 0 0,.bool false],.agg #[.int .u16 0,.string ByteArray.empty]] 8 (World.laidAll_os _ _ _) (World.shaped_of_ZipB (by kernel_rfl) (by kernel_rfl)) (by kernel_rfl) (by kernel_rfl) (by kernel_rfl) (by rw [MakeChecks.laidMetH_plain _ _ _ (by kernel_rfl)];exact laidMet_laidAll _ (by kernel_rfl) (by kernel_rfl))) ?_
 intro W base args ds gs before hval0 hW hL hsh;have hval: ∀(j:Nat) t v,Tryz.f4.params[j]?=some t->args[j]?=some v->Value.okWide Tryz.prog W .any base t v:=hval0;have hW':=hW;obtain⟨p,q,hA0,hV,rfl,hfz,hnd⟩:=hW;have hA:DataW.TrodAll enc Tryz.prog W 0 (fun _=>true) true Tryz.f4.params.toList args.toList ds p:=hA0;rw [Tryz.params4]at hA hval;obtain⟨v0,vs0,d0,ds0,p0,q0,hargs,rfl,rfl,h0,r0⟩:=trodAll_cons hA;obtain⟨v1,vs1,d1,ds1,p1,q1,rfl,rfl,rfl,h1,r1⟩:=trodAll_cons r0;obtain⟨rfl,rfl,rfl⟩:=trodAll_nil r1;obtain rfl:args=#[v0,v1]:=by cases args;simp_all
 obtain⟨ca0,pe0,hv0,hr0,rl0⟩:=Sn.open_case (g:=3) (Nat.lt_of_lt_of_le (Nat.succ_pos _) (Ic hsh)) (hval 0 30 v0 rfl rfl) h0;obtain⟨bb1,bs1,hv1,bl1,bu1⟩:=Sn.open_body (hval 1 33 v1 rfl rfl) h1;obtain⟨Hx,heq⟩: ∃H':LH,LC Tryz.prog Sn.EJ 4 [Sn.casv ca0 pe0,Sn.bodyv bb1 bs1] (LH.lift W 3)=some (.bool true,H'):=Sn.point36 hr0 (Nat.le_trans rl0 (by decide)) bl1 bu1 (Sn.tabS4 hL) (Sn.maxO hsh);have hcall:=AH (args:=#[v0,v1]) Sn.tOk (Ic hsh) (by show LC Tryz.prog Sn.EJ 4 [lf W.heap.size (v0),lf W.heap.size (v1)] (LH.lift W 3)=_;simp only [hv0,hv1];exact heq);refine hcall.mono fun e W' ⟨he,hg⟩=>?_;subst he
 exact⟨_,rfl,yK (by kernel_rfl) hW' rfl (fun t ht=>by
  have:Tryz.f4.params.toList.all (fun t=>Tryz.prog.readableRec t&&decide (t<Tryz.prog.types.size))=true:=by kernel_rfl
  have h2:=List.all_eq_true.1 this t ht;rw [Bool.and_eq_true]at h2;exact⟨h2.1,of_decide_eq_true h2.2⟩) rfl Tryz.underlying4 rfl (lX hg)⟩
theorem k1:(Rows.classifyPointRow.wf (OpenSpec.ofChange Rows.classifyPointSpec))=true:=by kernel_rfl
theorem k2:(laidOutB Tryz.checked.prog)=true:=PK.k2
theorem k3:(mapsRowed Tryz.checked.prog)=true:=PK.k3
theorem k4:(Tryz.f4.params.all (Tryz.checked.prog.readableRec ·))=true:=by kernel_rfl
theorem k5:(namedTie Tryz.checked.prog Rows.classifyPointRow.named Rows.classifyPointSpec.vars)=true:=by kernel_rfl
theorem k6:((Rows.classifyPointRow.stops== []))=true:=PK.k6
theorem k7:((Tryz.checked.prog.stops== []))=true:=PK.k7
theorem k8:((Rows.classifyPointRow.knobs== []))=true:=PK.k8
theorem k9:((Tryz.checked.prog.stopKnobs== []))=true:=PK.k9
theorem Us:((Rows.classifyPointRow.inPlace==Tryz.checked.prog.inPlace (4:FuncId)))=true:=by kernel_rfl
theorem Ut:((Rows.classifyPointRow.unfollowed==Tryz.checked.prog.unfollowed (4:FuncId)))=true:=by kernel_rfl
theorem Uu:((Rows.classifyPointRow.recurses==Tryz.checked.prog.recurses (4:FuncId)))=true:=by kernel_rfl
theorem Uv:((Rows.classifyPointRow.named==Tryz.checked.prog.varsNamed (4:FuncId)))=true:=by kernel_rfl
theorem Uw:((Rows.classifyPointRow.maps==(Tryz.f4.params.toList++Rows.classifyPointSpec.plain.varTypes Tryz.checked.prog).any (Tryz.checked.prog.mapsRec ·)))=true:=by kernel_rfl
theorem Ux:((Rows.classifyPointRow.ifaces==(Tryz.f4.params.toList++Rows.classifyPointSpec.plain.varTypes Tryz.checked.prog).any (Tryz.checked.prog.ifacesRec ·)))=true:=by kernel_rfl
theorem S_:((Rows.classifyPointRow.mapsOut==Tryz.checked.prog.mapsAmong Tryz.f4.resultTypes.toList))=true:=by kernel_rfl
theorem Uy:((Rows.classifyPointRow.loops==(Tryz.f4.params.toList++Rows.classifyPointSpec.plain.varTypes Tryz.checked.prog).any (Tryz.checked.prog.loopsFrom ·)))=true:=by kernel_rfl
theorem Uz:((Rows.classifyPointRow.wideKeys==(Tryz.f4.params.toList++Rows.classifyPointSpec.plain.varTypes Tryz.checked.prog++Tryz.f4.resultTypes.toList).any (Tryz.checked.prog.wideKeysFrom ·)))=true:=by kernel_rfl
theorem UA:(Rows.classifyPointSpec.vars.all (Tryz.checked.prog.varReadable ·))=true:=by kernel_rfl
theorem UB:(Tryz.f4.resultTypes.all (fun t=>Tryz.checked.prog.readableRec t&&decide (t<Tryz.checked.prog.types.size)))=true:=by kernel_rfl
theorem UC:((Rows.classifyPointRow.ifacesOut==Tryz.f4.resultTypes.toList.any (Tryz.checked.prog.ifacesRec ·)))=true:=by kernel_rfl
theorem UD:((Rows.classifyPointRow.loopsOut==Tryz.f4.resultTypes.toList.any (Tryz.checked.prog.loopsFrom ·)))=true:=by kernel_rfl
theorem k23:((Rows.classifyPointRow.plainKeys==Tryz.checked.prog.plainKeys))=true:=PK.k23
theorem k24:(Rows.classifyPointRow.shortTexts.isNone)=true:=PK.k24
theorem k25:(Tryz.checked.prog.stopsHeard)=true:=PK.k25
theorem k26:(Tryz.checked.prog.mayEnter)=true:=PK.k26
theorem k27:((Rows.classifyPointRow.lifted==Tryz.checked.prog.liftsFinal))=true:=PK.k27
theorem k28:((Tryz.checked.prog.make==some Rows.classifyPointRow.make))=true:=PK.k28
theorem UE:((Rows.classifyPointRow.kinds==(if Rows.classifyPointRow.domain.isEmpty then []else Tryz.f4.params.toList.map fun t=>match Tryz.checked.prog.underlying t with|some (.int k)=>some k|_=>none)))=true:=by kernel_rfl
theorem k30:((Rows.classifyPointRow.pinned==Rows.classifyPointRow.pinnedBy))=true:=PK.k30
theorem UF:((Rows.classifyPointRow.veiled==(Tryz.f4.params.toList++Rows.classifyPointSpec.plain.varTypes Tryz.checked.prog++Tryz.f4.resultTypes.toList).any (Tryz.checked.prog.veiledRec ·)))=true:=by kernel_rfl
theorem UG:(Rows.classifyPointRow.veiledFits Tryz.checked.prog Tryz.f4.params.toList (Tryz.f4.params.toList++Rows.classifyPointSpec.plain.varTypes Tryz.checked.prog++Tryz.f4.resultTypes.toList))=true:=by kernel_rfl
theorem du {a b:Bool} (h1:a=true) (h2:b=true):(a&&b)=true:=by rw [h1,h2];rfl
theorem yr:joinedFacts Tryz.checked.prog 4 Tryz.f4 Rows.classifyPointSpec Rows.classifyPointRow=true:=(du (du (du (du (du (du (du (du (du (du (du (du (du (du (du (du (du (du (du (du (du (du (du (du (du (du (du (du (du (du (du k1 k2) k3) k4) k5) k6) k7) k8) k9) Us) Ut) Uu) Uv) Uw) Ux) S_) Uy) Uz) UA) UB) UC) UD) k23) k24) k25) k26) k27) k28) UE) k30) UF) UG)
theorem C1:Tryz.checked.prog.funcNamed Rows.classifyPointRow.func=some 4:=by kernel_rfl
theorem Ps:Tryz.f4.isInstance Tryz.checked.prog Rows.classifyPointRow.origin Rows.classifyPointRow.targs:=of_decide_eq_true (by kernel_rfl)
theorem Pt:Tryz.f4.isWrapper Tryz.checked.prog Rows.classifyPointRow.wrapper Rows.classifyPointRow.mainSum:=by unfold Func.isWrapper;first|(rw [if_pos (by decide+kernel)];kernel_rfl)|(rw [if_neg (by decide+kernel)];exact⟨rfl,rfl⟩)
theorem over:Rows.ClassifyPointSaid:=
 OpenClaim.holds_of_wide 4 Tryz.f4 rfl rfl rfl rfl rfl rfl rfl ⟨rfl,rfl,rfl,rfl,rfl⟩ rfl rfl rfl rfl rfl C1 Tryz.func4 yr Ps Pt (fun os started H enc _=>lifted os started H enc)
theorem Pu:Rows.classifyPointRow.wfByText (OpenSpec.ofChange Rows.classifyPointSpec)=true:=by kernel_rfl
theorem Pv:false=OpenClaim.goesBy Rows.classifyPointRow Tryz.checked.prog:=Sn.goes_of (by kernel_rfl)
theorem La:([30,33].all fun u=>!Tryz.prog.wantsStandIn u)=true:=by kernel_rfl
theorem proved:Rows.ClassifyPointCardSaid:=
 Claim7.holds_tied_plain_at .later [] [.data,.listed,.data,.pinned] true (true,"91e0afe17776c86955c5574f0f5e8b24854a4a2522fb0930330b2cf11b558dea") true
  over (fun _ h=>by cases h) Pu (fun _ h=>by cases h) classifyPoint_row_tie rfl ⟨rfl,rfl⟩ PK.main0 rfl
  (fun f fn hf hfn=>by
   obtain rfl:f=4:=Option.some.inj (C1.symm.trans hf)|>.symm;obtain rfl:fn=Tryz.f4:=(Option.some.inj (Tryz.func4.symm.trans hfn)).symm
   exact⟨PK.looks0,fun j t ht=>by
    rw [Tryz.params4]at ht;have hm:t∈ [30,33]:=by simpa using Array.mem_of_getElem? ht
    exact(show Tryz.prog.wantsStandIn t=false by simpa using List.all_eq_true.1 La t hm)⟩)
  Pv
end Go.Proofs.YtbeoilidocfofaaGreatDoor.classifyPoint
