/-
  SScansRow.
-/
import Derived.Test.YtgnkmjeoaoongaaGreatDoorCards
import Derived.Test.YtgnkmjeoaoongaaGreatDoorTie
import Derived.Test.YtgnkmjeoaoongaaGreatDoorVf1
import Derived.Test.YtgnkmjeoaoongaaGreatDoorSScansF1M
import Derived.Test.YtgnkmjeoaoongaaGreatDoorSScansF2M
set_option maxRecDepth 100000
namespace Go.Mer
section
open Go Go.ChangeShapes
variable {H:Type} {enc:TypeId×Value->H} {P:Program} {w:World} {base:Nat} {spare:Nat->Bool} {held:Bool}
theorem Q5s {t0 t1 t2 t3 t4:TypeId} {args:Array Value} {ds:List (DataW H)} {ps:List MemPlace} (h:DataW.TrodAll enc P w base spare held [t0,t1,t2,t3,t4] args.toList ds ps):
  ∃v0 v1 v2 v3 v4 d0 d1 d2 d3 d4 p0 p1 p2 p3 p4,args= #[v0,v1,v2,v3,v4]/\ds=[d0,d1,d2,d3,d4]/\ps=p0++p1++p2++p3++p4/\DataW.Trod enc P w base spare held t0 v0 d0 p0/\DataW.Trod enc P w base spare held t1 v1 d1 p1/\DataW.Trod enc P w base spare held t2 v2 d2 p2/\DataW.Trod enc P w base spare held t3 v3 d3 p3/\DataW.Trod enc P w base spare held t4 v4 d4 p4:=by
 obtain ⟨v0,w0,d0,e0,p0,q0,hargs,rfl,rfl,h0,r0⟩:=trodAll_cons h;obtain ⟨v1,w1,d1,e1,p1,q1,rfl,rfl,rfl,h1,r1⟩:=trodAll_cons r0;obtain ⟨v2,w2,d2,e2,p2,q2,rfl,rfl,rfl,h2,r2⟩:=trodAll_cons r1;obtain ⟨v3,w3,d3,e3,p3,q3,rfl,rfl,rfl,h3,r3⟩:=trodAll_cons r2;obtain ⟨v4,w4,d4,e4,p4,q4,rfl,rfl,rfl,h4,r4⟩:=trodAll_cons r3;obtain ⟨rfl,rfl,rfl⟩:=trodAll_nil r4;exact ⟨v0,v1,v2,v3,v4,d0,d1,d2,d3,d4,p0,p1,p2,p3,p4,by cases args;simp_all,rfl,by simp,h0,h1,h2,h3,h4⟩
end
end Go.Mer
namespace Go.Proofs.YtgnkmjeoaoongaaGreatDoor
open Go.ChangeShapes Go.WideShapes Go.ChangeAt Go.RowKit Go.Mer
abbrev Gn:List (String×DataW Unit):=[("math/bits.deBruijn32tab",Rows.laid_math_bits_deBruijn32tab),("math/bits.deBruijn64tab",Rows.laid_math_bits_deBruijn64tab),("internal/strconv.uint64pow10",Rows.laid_internal_strconv_uint64pow10),("unicode/utf8.acceptRanges",Rows.laid_unicode_utf8_acceptRanges),("unicode/utf8.first",Rows.laid_unicode_utf8_first)]
theorem Ds:(Tryz.prog.globals[0]?).map (·.type)=some 358:=by kernel_rfl
theorem Q17 {x y:String×DataW Unit} {rest:List (String×DataW Unit)} {W:World} (h:laidMet Tryz.prog (x::y::("internal/strconv.uint64pow10",Rows.laid_internal_strconv_uint64pow10)::rest) W):Pow W:=
 Lib.tabIs_of_head (k:= .u64) (zs:=Lib.pow10Tab) Qk1 Ds Tryz.underlying358 Tryz.underlying196 (by kernel_rfl) (by kernel_rfl) h.tail.tail
theorem Dp (os:Os) (started:os.Started) (H:Type) (enc:TypeId×Value->H):
  ReturnsInHanded {} Tryz.checked os 5 .any (λw args=>(Rows.storeScansSpec.pre enc Tryz.prog Tryz.f5 [] false w args/\laidMetH Tryz.prog Gn w)/\sizedMet enc Tryz.prog Tryz.f5 (OpenSpec.ofChange Rows.storeScansSpec) false w args)
   (Rows.storeScansSpec.post enc Tryz.prog Tryz.f5 false true false false):=by
 refine returnsInHanded_of_change_and (C:=Tryz.checked) (X:=λw _=>laidMetH Tryz.prog Gn w) (λ_ _ _ hh h=>h.of_heap hh) Tryz.own started (by kernel_rfl) Tryz.func5
  (ChangeSpec.witness_shaped (enc:=enc) (C:=Tryz.checked) (os:=os) (X:=λw _=>laidMetH Tryz.prog Gn w) false (World.laidAll Tryz.prog os Gn) #[.slice none 0 0, .agg #[.int .i64 0, .int .i64 0], .string ⟨#[]⟩, .string ⟨#[]⟩, .int .i64 0] 8 (World.laidAll_os _ _ _) (World.shaped_of_ZipB (by kernel_rfl) (by kernel_rfl)) (by kernel_rfl) (by kernel_rfl) (by kernel_rfl) (by rw [MakeChecks.laidMetH_plain _ _ _ (by kernel_rfl)];exact laidMet_laidAll _ (by kernel_rfl) (by kernel_rfl))) ?_
 intro W base args ds gs before hval0 hW _ hsz0 hL _;have hsz:(DataW.weightsEach Tryz.prog (Tryz.f5.params.toList++Rows.storeScansSpec.plain.varTypes Tryz.prog) (ds++gs)).all (· <=reachBytes)=true:=hsz0;have hval: ∀(j:Nat) t v,Tryz.f5.params[j]?=some t->args[j]?=some v->Value.okWide Tryz.prog W .any base t v:=hval0;have hW':=hW;obtain ⟨p,q,hA0,hV,rfl,_,_⟩:=hW;have hA:DataW.TrodAll enc Tryz.prog W 0 (λ_=>true) true Tryz.f5.params.toList args.toList ds p:=hA0;have hA1:=hA;rw [Tryz.params5] at hA1 hval hsz;rw [MakeChecks.laidMetH_plain _ _ _ (by kernel_rfl)] at hL;have hp:Pow W:=Q17 hL;obtain ⟨v0,v1,v2,v3,v4,d0,d1,d2,d3,d4,p0,p1,p2,p3,p4,rfl,rfl,rfl,h0,h1,h2,h3,h4⟩:=Q5s hA1;obtain ⟨rfl,rfl⟩:=trodVars_none hV;obtain ⟨a,len,cap,rfl⟩:=okWide_slice Tryz.underlying22 (hval 0 22 v0 rfl rfl);obtain ⟨cs1,rfl,_⟩:=okWide_struct Tryz.underlying25 (hval 1 25 v1 rfl rfl);obtain ⟨f,rfl,rfl,rfl,hf⟩:=Go.ChangeMaps.open_string Tryz.underlying9 (hval 2 9 v2 rfl rfl) h2;obtain ⟨t,rfl,rfl,rfl,ht⟩:=Go.ChangeMaps.open_string Tryz.underlying9 (hval 3 9 v3 rfl rfl) h3;obtain ⟨n,rfl,_⟩:=Q10 hsz (j:=4) rfl rfl (hval 4 3 v4 rfl rfl) h4;obtain ⟨n0,g0⟩:=U7 hsz (j:=0) rfl rfl h0;obtain ⟨n1,g1⟩:=U7 hsz (j:=1) rfl rfl h1;obtain ⟨n2,g2⟩:=U7 hsz (j:=2) rfl rfl h2;obtain ⟨n3,g3⟩:=U7 hsz (j:=3) rfl rfl h3;obtain ⟨f',ef,hfs⟩:=Du (cs:=[.string f]) g2 Tryz.underlying9;obtain ⟨t',et,hts⟩:=Du (cs:=[.string t]) g3 Tryz.underlying9;injection ef with ef;injection ef with ef;injection et with et;injection et with et;subst ef;subst et;obtain ⟨a',cap',L,e0,hrows,hlc,hcap⟩:=good_rows (cs:=[.slice a len cap]) g0;injection e0 with e0;injection e0 with ea el ec;subst ea;subst el;subst ec;obtain ⟨t1,t2,e1,J2s,_⟩:=Mw (cs:=cs1.toList) g1
 have ht1:t1<=9223372036854775807:=by
  unfold I64 at J2s;omega
 obtain rfl:cs1= #[.int .i64 t1, .int .i64 t2]:=by rw [<-Array.toList_inj,e1]
 refine (Qci W hp a cap L hrows hlc (by omega) t1 t2 f t n ht1 hfs hts).mono λe W' ⟨he,hk⟩=>?_;subst he;exact ⟨_,rfl,Q16 (tb:=4) Tryz.laidOut (by rw [Tryz.params5];decide+kernel) (by kernel_rfl) Tryz.underlying4 rfl rfl rfl rfl hW' hA hk⟩
theorem row_holds:Rows.StoreScansSaid:=
 OpenClaim.holds_of_wide 5 Tryz.f5 rfl rfl rfl rfl rfl rfl rfl ⟨rfl,rfl,rfl,rfl,rfl⟩ rfl rfl rfl rfl rfl (by kernel_rfl) Tryz.func5 Hg
  (of_decide_eq_true (by kernel_rfl)) (by unfold Func.isWrapper;first|(rw [if_pos (by decide+kernel)];kernel_rfl)|(rw [if_neg (by decide+kernel)];exact ⟨rfl,rfl⟩))
  (λos started H enc _=>Dp os started H enc)
theorem storeScans_holds:Rows.StoreScansCardSaid:=
 Claim7.holds_tied_plain_at .later [] [.data, .data, .data, .data, .pinned] true (true, "799af7e8b9fb1c5e93c3c4869e2ba8d04d7201ffac44eae06b41942ed7e7b957") true
  row_holds (λ_ h=>by cases h) (by kernel_rfl) (λ_ h=>by cases h) storeScans_row_tie rfl ⟨rfl,rfl⟩ (by kernel_rfl) rfl
  (λf fn hf hfn=>by
   obtain rfl:f=5:=Option.some.inj ((show Tryz.prog.funcNamed "meridian/meridianlaw16.StoreScans" =some 5 by kernel_rfl).symm.trans hf)|>.symm;obtain rfl:fn=Tryz.f5:=(Option.some.inj (Tryz.func5.symm.trans hfn)).symm
   exact ⟨by kernel_rfl,λj t ht=>by
    rw [Tryz.params5] at ht;have hm:t∈[22,25,9,3]:=by simpa using Array.mem_of_getElem? ht
    have hall:([22,25,9,3].all λu=>!Tryz.prog.wantsStandIn u)=true:=by kernel_rfl
    exact (show Tryz.prog.wantsStandIn t=false by simpa using List.all_eq_true.1 hall t hm)⟩)
  A4
end Go.Proofs.YtgnkmjeoaoongaaGreatDoor
#print axioms Go.Proofs.YtgnkmjeoaoongaaGreatDoor.storeScans_holds
