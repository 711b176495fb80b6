/-
  SReadsRow.
-/
import Derived.Test.YtgnkmjeoaoongaaGreatDoorCards
import Derived.Test.YtgnkmjeoaoongaaGreatDoorTie
import Derived.Test.YtgnkmjeoaoongaaGreatDoorXe8
import Derived.Test.YtgnkmjeoaoongaaGreatDoorSReadsF1N
import Derived.Test.YtgnkmjeoaoongaaGreatDoorSReadsF2N
set_option maxRecDepth 100000
namespace Go.Proofs.YtgnkmjeoaoongaaGreatDoor
open Go.ChangeShapes Go.WideShapes Go.ChangeAt Go.RowKit Go.Mer
abbrev Qag:List (String×DataW Unit):=[("math/bits.deBruijn32tab",Rows.laid_math_bits_deBruijn32tab),("math/bits.deBruijn64tab",Rows.laid_math_bits_deBruijn64tab),("internal/strconv.uint64pow10",Rows.laid_internal_strconv_uint64pow10),("unicode/utf8.acceptRanges",Rows.laid_unicode_utf8_acceptRanges),("unicode/utf8.first",Rows.laid_unicode_utf8_first)]
theorem Qfr:(Tryz.prog.globals[0]?).map (·.type)=some 358:=by kernel_rfl
theorem Qro {x y:String×DataW Unit} {rest:List (String×DataW Unit)} {W:World} (h:laidMet Tryz.prog (x::y::("internal/strconv.uint64pow10",Rows.laid_internal_strconv_uint64pow10)::rest) W):Pow W:=
 Lib.tabIs_of_head (k:= .u64) (zs:=Lib.pow10Tab) Qpu Qfr Tryz.underlying358 Tryz.underlying196 (by kernel_rfl) (by kernel_rfl) h.tail.tail
theorem Qfm (os:Os) (started:os.Started) (H:Type) (enc:TypeId×Value->H):
  ReturnsInHanded {} Tryz.checked os 4 .any (λw args=>(Rows.storeReadsSpec.pre enc Tryz.prog Tryz.f4 [] false w args/\laidMetH Tryz.prog Qag w)/\sizedMet enc Tryz.prog Tryz.f4 (OpenSpec.ofChange Rows.storeReadsSpec) false w args)
   (Rows.storeReadsSpec.post enc Tryz.prog Tryz.f4 false true false false):=by
 refine returnsInHanded_of_change_and (C:=Tryz.checked) (X:=λw _=>laidMetH Tryz.prog Qag w) (λ_ _ _ hh h=>h.of_heap hh) Tryz.own started (by kernel_rfl) Tryz.func4
  (ChangeSpec.witness_shaped (enc:=enc) (C:=Tryz.checked) (os:=os) (X:=λw _=>laidMetH Tryz.prog Qag w) false (World.laidAll Tryz.prog os Qag) #[.slice none 0 0, .agg #[.int .i64 0, .int .i64 0], .agg #[.int .i64 0, .int .i64 0]] 8 (World.laidAll_os _ _ _) (World.shaped_of_ZipB (by kernel_rfl) (by kernel_rfl)) (by kernel_rfl) (by kernel_rfl) (by kernel_rfl) (by rw [MakeChecks.laidMetH_plain _ _ _ (by kernel_rfl)];exact laidMet_laidAll _ (by kernel_rfl) (by kernel_rfl))) ?_
 intro W base args ds gs before hval0 hW _ hsz0 hL _;have hsz:(DataW.weightsEach Tryz.prog (Tryz.f4.params.toList++Rows.storeReadsSpec.plain.varTypes Tryz.prog) (ds++gs)).all (· <=reachBytes)=true:=hsz0;have hval: ∀(j:Nat) t v,Tryz.f4.params[j]?=some t->args[j]?=some v->Value.okWide Tryz.prog W .any base t v:=hval0;have hW':=hW;obtain ⟨p,q,hA0,hV,rfl,_,_⟩:=hW;have hA:DataW.TrodAll enc Tryz.prog W 0 (λ_=>true) true Tryz.f4.params.toList args.toList ds p:=hA0;have hA1:=hA;rw [Tryz.params4] at hA1 hval hsz;rw [MakeChecks.laidMetH_plain _ _ _ (by kernel_rfl)] at hL;have hp:Pow W:=Qro hL;obtain ⟨v0,v1,v2,d0,d1,d2,p0,p1,p2,rfl,rfl,rfl,h0,h1,h2⟩:=trodAll_three hA1;obtain ⟨rfl,rfl⟩:=trodVars_none hV;obtain ⟨a,len,cap,rfl⟩:=okWide_slice Tryz.underlying22 (hval 0 22 v0 rfl rfl);obtain ⟨cs1,rfl,_⟩:=okWide_struct Tryz.underlying25 (hval 1 25 v1 rfl rfl);obtain ⟨cs2,rfl,_⟩:=okWide_struct Tryz.underlying25 (hval 2 25 v2 rfl rfl);obtain ⟨n0,g0⟩:=B7 hsz (j:=0) rfl rfl h0;obtain ⟨n1,g1⟩:=B7 hsz (j:=1) rfl rfl h1;obtain ⟨n2,g2⟩:=B7 hsz (j:=2) rfl rfl h2;obtain ⟨a',cap',L,e0,hrows,hlc,hcap⟩:=good_rows (cs:=[.slice a len cap]) g0;injection e0 with e0;injection e0 with ea el ec;subst ea;subst el;subst ec;obtain ⟨t1,t2,e1,J9a,_⟩:=B9 (cs:=cs1.toList) g1;obtain ⟨m1,m2,e2,_⟩:=B9 (cs:=cs2.toList) g2
 have ht:t1<=9223372036854775807:=by
  unfold I64 at J9a;omega
 obtain rfl:cs1= #[.int .i64 t1, .int .i64 t2]:=by rw [<-Array.toList_inj,e1]
 obtain rfl:cs2= #[.int .i64 m1, .int .i64 m2]:=by rw [<-Array.toList_inj,e2]
 refine (Q8u W hp a cap L hrows (by omega) t1 t2 m1 m2 ht).mono λe W' ⟨he,hk⟩=>?_;subst he;exact ⟨_,rfl,Qhu (tb:=4) Tryz.laidOut (by rw [Tryz.params4];decide+kernel) (by kernel_rfl) Tryz.underlying4 rfl rfl rfl rfl hW' hA hk⟩
theorem row_holds:Rows.StoreReadsSaid:=
 OpenClaim.holds_of_wide 4 Tryz.f4 rfl rfl rfl rfl rfl rfl rfl ⟨rfl,rfl,rfl,rfl,rfl⟩ rfl rfl rfl rfl rfl (by kernel_rfl) Tryz.func4 L7
  (of_decide_eq_true (by kernel_rfl)) (by unfold Func.isWrapper;first|(rw [if_pos (by decide+kernel)];kernel_rfl)|(rw [if_neg (by decide+kernel)];exact ⟨rfl,rfl⟩))
  (λos started H enc _=>Qfm os started H enc)
theorem storeReads_holds:Rows.StoreReadsCardSaid:=
 Claim7.holds_tied_plain_at .later [] [.data, .data, .data, .data, .pinned] true (true, "799af7e8b9fb1c5e93c3c4869e2ba8d04d7201ffac44eae06b41942ed7e7b957") true
  row_holds (λ_ h=>by cases h) (by kernel_rfl) (λ_ h=>by cases h) storeReads_row_tie rfl ⟨rfl,rfl⟩ (by kernel_rfl) rfl
  (λf fn hf hfn=>by
   obtain rfl:f=4:=Option.some.inj ((show Tryz.prog.funcNamed "meridian/meridianlaw16.StoreReads" =some 4 by kernel_rfl).symm.trans hf)|>.symm;obtain rfl:fn=Tryz.f4:=(Option.some.inj (Tryz.func4.symm.trans hfn)).symm
   exact ⟨by kernel_rfl,λj t ht=>by
    rw [Tryz.params4] at ht;have hm:t∈[22,25]:=by simpa using Array.mem_of_getElem? ht
    have hall:([22,25].all λu=>!Tryz.prog.wantsStandIn u)=true:=by kernel_rfl
    exact (show Tryz.prog.wantsStandIn t=false by simpa using List.all_eq_true.1 hall t hm)⟩)
  C4
end Go.Proofs.YtgnkmjeoaoongaaGreatDoor
#print axioms Go.Proofs.YtgnkmjeoaoongaaGreatDoor.storeReads_holds
