/- store -/
import Derived.Test.YtgnkmjeoaoongaaGreatDoorVe5
import Derived.Test.YtgnkmjeoaoongaaGreatDoorVd8
import Derived.Test.YtgnkmjeoaoongaaGreatDoorVe4
set_option maxRecDepth 100000
set_option maxHeartbeats 8000000
open List (length_map mem_map)
namespace Go.Proofs.YtgnkmjeoaoongaaGreatDoor
open Go.RowKit Go.Mer
def Y0 (st st':Ja):Prop:=st'={st with dead:=st'.dead}
theorem Y0.refl (st:Ja):Y0 st st:=rfl
section
variable {st st':Ja}
theorem Y0.inv {o:Nat} (h:Y0 st st') (hi:Inv o st):Inv o st':=by
 have:=Ic hi st.Zc st.n st'.dead;rw [h];exact this
theorem Y0.keys (h:Y0 st st'):st'.keys=st.keys:=by rw [h]
theorem Y0.scan (h:Y0 st st'):Y2 st'=Y2 st:=by rw [h];rfl
theorem Y0.get (h:Y0 st st'):Eu st'=Eu st:=by rw [h];rfl
theorem Y0.kept (h:Y0 st st'):V6 st'=V6 st:=by rw [h];rfl
theorem Y0.many (h:Y0 st st'):Z7 st'=Z7 st:=by rw [h];rfl
theorem Y0.ap (h:Y0 st st'):Qar st'=Qar st:=by rw [h];rfl
theorem Y0.rest (h:Y0 st st'):st'.Zc=st.Zc/\st'.n=st.n/\st'.mm=st.mm/\st'.mc=st.mc:=by rw [h];exact ⟨rfl,rfl,rfl,rfl⟩
end
theorem Q90 {w0 w:World} {p d s r x o B:Nat} {P:ByteArray} {st st':Ja} {ds ds':Qz} {lg X9:Jf} {H1 H2:Nat->Prop} (h:Qt w0 w p d s r x P o st ds lg st' ds' X9 B H1 H2) (he:Y0 st st') (hinv:Inv o st) (hB:B<=1000000) (hkn:st.keys.length<=1000000) (t1 t2:Int) (ht:t1<=9223372036854775807):
  Calls Tryz.prog 88 #[.pointer (some ⟨p,0,none⟩),Xl t1 t2] w λe w'=>e= .returned (.bool true)/\Kp No w w':=by
 obtain ⟨w1,hw1⟩: ∃W,W=w.alloc (.cells #[.int .i64 t1, .int .i64 t2] 25):=⟨_,rfl⟩;have k1:Kp No w w1:=by rw [hw1];exact zK.alloc _
 obtain ⟨tb,htb⟩: ∃b,b=w.heap.size:=⟨_,rfl⟩;have b1:w1.heap[tb]?=some (.cells #[.int .i64 t1, .int .i64 t2] 25 (0,0)):=by rw [hw1,htb];exact heap_alloc_new w _
 have J9h:=Q7 b1;have Qs9:=zz (show ∀W,Kp No w1 W->W.rangeAt tb 0 [.int .i64 t1, .int .i64 t2] from λW hW=>by have:=Qg (hW.get b1 λx=>x) 0 2;exact this);have Oy:=zz (show ∀W,Kp No w1 W->W.cell? ⟨p,1,none⟩=some (.pointer (some ⟨s,0,none⟩)) from λW hW=>h.at_ (k1.Q0 hW) 1);have Db:=zz (show ∀W,Kp No w1 W->W.cell? ⟨p,3,none⟩=some (.pointer (some ⟨x,0,none⟩)) from λW hW=>h.at_ (k1.Q0 hW) 3);have cs1:=Oy.out;have Jfl:=Db.out;have Jct:=k1.lt (Q7 h.cell);have Qae:=zz Jct;have Gg:=zz J9h;have Jex:=zz Qs9.out;have HP:=zz (h.no k1);have Yq:=zz (Kp.refl No w1);have J5h:=zz k1;have HW1:=zz (And.intro hw1 htb);have HI:=zz (And.intro hinv (And.intro hB hkn));have HA:=zz (λ(f t:ByteArray) (most:Int) (W:World) (hW:Kp No w1 W)=>(HP.out.no hW).scan hinv hB hkn f t t1 t2 most ht);have HX:=zz (λ(f t:ByteArray) (most:Int) (W:World) (hW:Kp No w1 W)=>(HP.out.no hW).J3l (he.inv hinv) hB (by rw [he.keys];exact hkn) f t t1 t2 most ht);have HG:=zz (λ(k:ByteArray) (W:World) (hW:Kp No w1 W)=>(HP.out.no hW).J6u hinv hB k t1 t2 ht);have J64:=zz (λ(k:ByteArray) (W:World) (hW:Kp No w1 W)=>(HP.out.no hW).J3k (he.inv hinv) hB (by rw [he.keys];exact hkn) k t1 t2 ht);rw [he.scan] at HX;rw [he.get] at J64;simp only [Xl] at HA HX HG J64;obtain ⟨e1,he1⟩: ∃e,e=λ(f t:ByteArray) (most:Int)=>(Y2 st f t t1 t2 most).2:=⟨_,rfl⟩;have HV:=zz (λ(f t:ByteArray) (most:Int)=>And.intro (Q5m hinv f t t1 t2 most) (Q94 f t t1 t2 most hkn));have Qok:=zz (λ(k:ByteArray)=>Qb3 hinv k t1 t2);clear h he hinv hB hkn hw1 htb b1 k1 he1 e1;go_enter Tryz.func88,Tryz.ntmps88
 go_upto_region 1 with fail
 rw [<-HW1.out.1,<-HW1.out.2];go_upto_region 1 with fail
 refine zD No [0,0,0,0,0,2,0,0,0,0,0] [0,1,2,3,4,5,6,7,8,9,10] ?_;repeat (first|refine zA ?_|refine zB ?_|refine zC ?_)
 (try (apply Qb rfl rfl rfl;(focus (intro W hW;exact Qc 25 _ rfl tb 0 rfl [.int .i64 t1, .int .i64 t2] _ (Jex.out W hW) Tryz.underlying25 rfl (by kernel_rfl)));(focus (go_simp;rfl))))
 repeat (first|refine zA ?_|refine zB ?_|refine zC ?_)
 refine Q8 rfl rfl (λn1=>?_);go_wp2_with fail
 refine (HA.out ⟨#[]⟩ ⟨#[]⟩ 1000 _ ((Yq.out).drewN n1)).mono ?_;rintro e wy ⟨Qg4,Qc1,Q2,rfl,hQ,Qdr,Qdq,k4⟩;obtain ⟨n2,hn2⟩: ∃k,k=Q2.length:=⟨_,rfl⟩;rw [<-hn2];have Qu1:=zz hn2;have HE2:=zz Qdq;have Qd5:=zz (show Eo wy Qg4 Q2 from ⟨hQ,Qdr⟩);clear hn2 Qdq hQ Qdr;have Gz:Kp No w1 wy:=k4.Qf;clear k4;go_wp2_with fail
 (try refine ⟨Gz,?_⟩)
 repeat (first|refine zA ?_|refine zB ?_|refine zC ?_)
 refine Qa (λnq=>?_);obtain ⟨w2,hwb⟩: ∃W,W=wy.drewN nq:=⟨_,rfl⟩;have Ih:Kp No wy w2:=by rw [hwb];exact (Kp.refl No wy).drewN nq
 rw [<-hwb];have Jem:=zz Ih;have HS2:=zz (Gz.Q0 Ih);have J9:=zz (Yq.out.Q0 (Gz.Q0 Ih));have Jey:=zz (show ∀W,Kp No w2 W->W.rangeAt tb 0 [.int .i64 t1, .int .i64 t2] from λW hW=>Qs9.out W (J9.out.Q0 hW));have cs2: ∀W,Kp No w2 W->W.cell? ⟨p,1,none⟩=some (.pointer (some ⟨s,0,none⟩)):=λW hW=>Oy.out W (J9.out.Q0 hW);have Jfm: ∀W,Kp No w2 W->W.cell? ⟨p,3,none⟩=some (.pointer (some ⟨x,0,none⟩)):=λW hW=>Db.out W (J9.out.Q0 hW);have lp2:=J9.out.lt Qae.out;have Jho:=J9.out.lt Gg.out;clear Gz hwb Ih cs1 Jfl Jct J9h;have Qu4:=zz (show ∀W,Kp No w2 W->Eo W Qg4 Q2 from λW hW=>Qd5.out.kp (Jem.out.Q0 hW));clear Qd5;go_upto_region 2 with fail
 refine zD No [0,0,0,0,0,2,0,0,0,0,0] [0,1,2,3,4,5,6,7,8,9,10] ?_;repeat (first|refine zA ?_|refine zB ?_|refine zC ?_)
 (try (apply Qb rfl rfl rfl;(focus (intro W hW;exact Qc 25 _ rfl tb 0 rfl [.int .i64 t1, .int .i64 t2] _ (Jey.out W hW) Tryz.underlying25 rfl (by kernel_rfl)));(focus (go_simp;rfl))))
 repeat (first|refine zA ?_|refine zB ?_|refine zC ?_)
 refine Q8 rfl rfl (λn1=>?_);go_wp2_with fail
 refine (HX.out ⟨#[]⟩ ⟨#[]⟩ 1000 _ ((J9.out).drewN n1)).mono ?_;rintro e wy ⟨J9a,Jhh,Q3,rfl,hQ,Qdr,Qdq,k4⟩;obtain ⟨n3,hn3⟩: ∃k,k=Q3.length:=⟨_,rfl⟩;rw [<-hn3];have Je1:=zz hn3;have Jdk:=zz Qdq;have Qd5:=zz (show Eo wy J9a Q3 from ⟨hQ,Qdr⟩);clear hn3 Qdq hQ Qdr;have Gz:Kp No w2 wy:=k4.Qf;clear k4;go_wp2_with fail
 (try refine ⟨Gz,?_⟩)
 repeat (first|refine zA ?_|refine zB ?_|refine zC ?_)
 refine Qa (λnq=>?_);obtain ⟨w3,hwb⟩: ∃W,W=wy.drewN nq:=⟨_,rfl⟩;have Ih:Kp No wy w3:=by rw [hwb];exact (Kp.refl No wy).drewN nq
 rw [<-hwb];have Jen:=zz Ih;have Qzf:=zz (Gz.Q0 Ih);have Zk:=zz (J9.out.Q0 (Gz.Q0 Ih));have Jif:=zz (show ∀W,Kp No w3 W->W.rangeAt tb 0 [.int .i64 t1, .int .i64 t2] from λW hW=>Qs9.out W (Zk.out.Q0 hW));have Qjo: ∀W,Kp No w3 W->W.cell? ⟨p,1,none⟩=some (.pointer (some ⟨s,0,none⟩)):=λW hW=>Oy.out W (Zk.out.Q0 hW);have Jfn: ∀W,Kp No w3 W->W.cell? ⟨p,3,none⟩=some (.pointer (some ⟨x,0,none⟩)):=λW hW=>Db.out W (Zk.out.Q0 hW);have J9e:=Zk.out.lt Qae.out;have Jhp:=Zk.out.lt Gg.out;clear Gz hwb Ih cs2 Jfm lp2 Jho;have Qz9:=zz (show ∀W,Kp No w3 W->Eo W J9a Q3 from λW hW=>Qd5.out.kp (Jen.out.Q0 hW));clear Qd5
 have Q2k:=zz (λW (hW:Kp No w3 W)=>It W Qg4 J9a Qc1 Jhh Q2 Q3 (Qu4.out W (Qzf.out.Q0 hW)) (Qz9.out W hW) (HE2.out.trans Jdk.out.symm) (by
  have h1:=congrArg List.length HE2.out;rw [length_map] at h1;have:=(HV.out ⟨#[]⟩ ⟨#[]⟩ 1000).2;omega) (λy hy=>(HV.out ⟨#[]⟩ ⟨#[]⟩ 1000).1 y.p (by rw [<-HE2.out];exact mem_map.2 ⟨y,hy,rfl⟩)))
 rw [<-Qu1.out,<-Je1.out] at Q2k;obtain ⟨er,her⟩: ∃z,z=(Y2 st ⟨#[]⟩ ⟨#[]⟩ t1 t2 1000).2:=⟨_,rfl⟩;rw [<-her];clear her;go_wp2_with fail
 refine (Q2k.out _ zK).mono ?_;rintro e w4 ⟨rfl,k4⟩;have Gf:=zz (Zk.out.Q0 k4);have Jez:=zz (show ∀W,Kp No w4 W->W.rangeAt tb 0 [.int .i64 t1, .int .i64 t2] from λW hW=>Qs9.out W (Gf.out.Q0 hW));have Jff: ∀W,Kp No w4 W->W.cell? ⟨p,1,none⟩=some (.pointer (some ⟨s,0,none⟩)):=λW hW=>Oy.out W (Gf.out.Q0 hW);have Jfo: ∀W,Kp No w4 W->W.cell? ⟨p,3,none⟩=some (.pointer (some ⟨x,0,none⟩)):=λW hW=>Db.out W (Gf.out.Q0 hW);have J9f:=Gf.out.lt Qae.out;have Jhq:=Gf.out.lt Gg.out;clear k4 Qjo Jfn J9e Jhp Q2k;go_upto_region 5 with fail
 refine zD No [0,0,0,0,0,2,0,0,0,0,0] [0,1,2,3,4,5,6,7,8,9,10] ?_;repeat (first|refine zA ?_|refine zB ?_|refine zC ?_)
 (try (apply Qb rfl rfl rfl;(focus (intro W hW;exact Qc 25 _ rfl tb 0 rfl [.int .i64 t1, .int .i64 t2] _ (Jez.out W hW) Tryz.underlying25 rfl (by kernel_rfl)));(focus (go_simp;rfl))))
 repeat (first|refine zA ?_|refine zB ?_|refine zC ?_)
 refine Q8 rfl rfl (λn1=>?_);go_wp2_with fail
 refine (HA.out ⟨#[98]⟩ ⟨#[107]⟩ 2 _ ((Gf.out).drewN n1)).mono ?_;rintro e wy ⟨J9b,Jhi,Q5,rfl,hQ,Qdr,Qdq,k4⟩;obtain ⟨n5,Q7c⟩: ∃k,k=Q5.length:=⟨_,rfl⟩;rw [<-Q7c];have Je2:=zz Q7c;have J5a:=zz Qdq;have Qd5:=zz (show Eo wy J9b Q5 from ⟨hQ,Qdr⟩);clear Q7c Qdq hQ Qdr;have Gz:Kp No w4 wy:=k4.Qf;clear k4;go_wp2_with fail
 (try refine ⟨Gz,?_⟩)
 repeat (first|refine zA ?_|refine zB ?_|refine zC ?_)
 refine Qa (λnq=>?_);obtain ⟨w5,hwb⟩: ∃W,W=wy.drewN nq:=⟨_,rfl⟩;have Ih:Kp No wy w5:=by rw [hwb];exact (Kp.refl No wy).drewN nq
 rw [<-hwb];have Jeo:=zz Ih;have Jib:=zz (Gz.Q0 Ih);have Vb:=zz (Gf.out.Q0 (Gz.Q0 Ih));have Jf0:=zz (show ∀W,Kp No w5 W->W.rangeAt tb 0 [.int .i64 t1, .int .i64 t2] from λW hW=>Qs9.out W (Vb.out.Q0 hW));have Jfg: ∀W,Kp No w5 W->W.cell? ⟨p,1,none⟩=some (.pointer (some ⟨s,0,none⟩)):=λW hW=>Oy.out W (Vb.out.Q0 hW);have Jfp: ∀W,Kp No w5 W->W.cell? ⟨p,3,none⟩=some (.pointer (some ⟨x,0,none⟩)):=λW hW=>Db.out W (Vb.out.Q0 hW);have Qte:=Vb.out.lt Qae.out;have J9i:=Vb.out.lt Gg.out;clear Gz hwb Ih Jff Jfo J9f Jhq;have Qza:=zz (show ∀W,Kp No w5 W->Eo W J9b Q5 from λW hW=>Qd5.out.kp (Jeo.out.Q0 hW));clear Qd5;go_upto_region 6 with fail
 refine zD No [0,0,0,0,0,2,0,0,0,0,0] [0,1,2,3,4,5,6,7,8,9,10] ?_;repeat (first|refine zA ?_|refine zB ?_|refine zC ?_)
 (try (apply Qb rfl rfl rfl;(focus (intro W hW;exact Qc 25 _ rfl tb 0 rfl [.int .i64 t1, .int .i64 t2] _ (Jf0.out W hW) Tryz.underlying25 rfl (by kernel_rfl)));(focus (go_simp;rfl))))
 repeat (first|refine zA ?_|refine zB ?_|refine zC ?_)
 refine Q8 rfl rfl (λn1=>?_);go_wp2_with fail
 refine (HX.out ⟨#[98]⟩ ⟨#[107]⟩ 2 _ ((Vb.out).drewN n1)).mono ?_;rintro e wy ⟨J9c,Jhj,Q6,rfl,hQ,Qdr,Qdq,k4⟩;obtain ⟨n6,Qvr⟩: ∃k,k=Q6.length:=⟨_,rfl⟩;rw [<-Qvr];have J3y:=zz Qvr;have Jdl:=zz Qdq;have Qd5:=zz (show Eo wy J9c Q6 from ⟨hQ,Qdr⟩);clear Qvr Qdq hQ Qdr;have Gz:Kp No w5 wy:=k4.Qf;clear k4;go_wp2_with fail
 (try refine ⟨Gz,?_⟩)
 repeat (first|refine zA ?_|refine zB ?_|refine zC ?_)
 refine Qa (λnq=>?_);obtain ⟨w6,hwb⟩: ∃W,W=wy.drewN nq:=⟨_,rfl⟩;have Ih:Kp No wy w6:=by rw [hwb];exact (Kp.refl No wy).drewN nq
 rw [<-hwb];have Jep:=zz Ih;have J42:=zz (Gz.Q0 Ih);have Fw:=zz (Vb.out.Q0 (Gz.Q0 Ih));have Jf1:=zz (show ∀W,Kp No w6 W->W.rangeAt tb 0 [.int .i64 t1, .int .i64 t2] from λW hW=>Qs9.out W (Fw.out.Q0 hW));have Jfh: ∀W,Kp No w6 W->W.cell? ⟨p,1,none⟩=some (.pointer (some ⟨s,0,none⟩)):=λW hW=>Oy.out W (Fw.out.Q0 hW);have Jfq: ∀W,Kp No w6 W->W.cell? ⟨p,3,none⟩=some (.pointer (some ⟨x,0,none⟩)):=λW hW=>Db.out W (Fw.out.Q0 hW);have J33:=Fw.out.lt Qae.out;have Jhr:=Fw.out.lt Gg.out;clear Gz hwb Ih Jfg Jfp Qte J9i;have Qzb:=zz (show ∀W,Kp No w6 W->Eo W J9c Q6 from λW hW=>Qd5.out.kp (Jep.out.Q0 hW));clear Qd5;go_upto_region 7 with fail
 refine zD No [0,0,0,0,0,2,0,0,0,0,0,0,0] [0,1,2,3,4,5,6,7,8,9,10,11,12] ?_;repeat (first|refine zA ?_|refine zB ?_|refine zC ?_)
 (try (apply Qb rfl rfl rfl;(focus (intro W hW;exact Qc 25 _ rfl tb 0 rfl [.int .i64 t1, .int .i64 t2] _ (Jf1.out W hW) Tryz.underlying25 rfl (by kernel_rfl)));(focus (go_simp;rfl))))
 repeat (first|refine zA ?_|refine zB ?_|refine zC ?_)
 refine Q8 rfl rfl (λn1=>?_);go_wp2_with fail
 refine (HG.out ⟨#[107]⟩ _ ((Fw.out).drewN n1)).mono ?_;obtain ⟨gq,hgq⟩: ∃q,q=Eu st ⟨#[107]⟩ t1 t2:=⟨_,rfl⟩;have Qye:=zz (show (gq.1.getD []).length<=1000000 from by rw [hgq];exact Qok.out ⟨#[107]⟩);have Qzt:=zz (J64.out ⟨#[107]⟩);rw [<-hgq] at Qzt⊢;clear hgq;rintro e wy ⟨v7,b7,e7,rfl,k4,a7,c7,rfl,r7,rfl,rfl⟩;obtain ⟨gl,hgl⟩: ∃l,l=gq.1.getD []:=⟨_,rfl⟩;obtain ⟨gb,hgb⟩: ∃b,b=gq.1.isSome:=⟨_,rfl⟩;obtain ⟨ge,hge⟩: ∃b,b=gq.2:=⟨_,rfl⟩;obtain ⟨gn,hgn⟩: ∃n,n=gl.length:=⟨_,rfl⟩;rw [<-hgl] at r7 Qye;rw [<-hgl,<-hgb,<-hge,<-hgn];have Q9y:=zz r7;have Qx7:=zz (And.intro hgl (And.intro hgb (And.intro hge hgn)));clear r7 hgl hgb hge hgn;have Gz:Kp No w6 wy:=k4.Qf;clear k4;go_wp2_with fail
 (try refine ⟨Gz,?_⟩)
 repeat (first|refine zA ?_|refine zB ?_|refine zC ?_)
 refine Qa (λnq=>?_);obtain ⟨w7,hwb⟩: ∃W,W=wy.drewN nq:=⟨_,rfl⟩;have Ih:Kp No wy w7:=by rw [hwb];exact (Kp.refl No wy).drewN nq
 rw [<-hwb];have Jeq:=zz Ih;have Jam:=zz (Gz.Q0 Ih);have M7:=zz (Fw.out.Q0 (Gz.Q0 Ih));have Jf2:=zz (show ∀W,Kp No w7 W->W.rangeAt tb 0 [.int .i64 t1, .int .i64 t2] from λW hW=>Qs9.out W (M7.out.Q0 hW));have Jfi: ∀W,Kp No w7 W->W.cell? ⟨p,1,none⟩=some (.pointer (some ⟨s,0,none⟩)):=λW hW=>Oy.out W (M7.out.Q0 hW);have Jfr: ∀W,Kp No w7 W->W.cell? ⟨p,3,none⟩=some (.pointer (some ⟨x,0,none⟩)):=λW hW=>Db.out W (M7.out.Q0 hW);have Jhk:=M7.out.lt Qae.out;have lt7:=M7.out.lt Gg.out;clear Gz hwb Ih Jfh Jfq J33 Jhr;go_upto_region 8 with fail
 refine zD No [0,0,0,0,0,2,0,0,0,0,0,0,0] [0,1,2,3,4,5,6,7,8,9,10,11,12] ?_;repeat (first|refine zA ?_|refine zB ?_|refine zC ?_)
 (try (apply Qb rfl rfl rfl;(focus (intro W hW;exact Qc 25 _ rfl tb 0 rfl [.int .i64 t1, .int .i64 t2] _ (Jf2.out W hW) Tryz.underlying25 rfl (by kernel_rfl)));(focus (go_simp;rfl))))
 repeat (first|refine zA ?_|refine zB ?_|refine zC ?_)
 refine Q8 rfl rfl (λn1=>?_);go_wp2_with fail
 refine (Qzt.out _ ((M7.out).drewN n1)).mono ?_;rintro e wy ⟨v8,b8,e8,rfl,k4,a8,c8,rfl,r8,rfl,rfl⟩;rw [<-Qx7.out.1] at r8;rw [<-Qx7.out.1,<-Qx7.out.2.1,<-Qx7.out.2.2.1,<-Qx7.out.2.2.2];have Jeb:=zz r8;clear r8;have Gz:Kp No w7 wy:=k4.Qf;clear k4;go_wp2_with fail
 (try refine ⟨Gz,?_⟩)
 repeat (first|refine zA ?_|refine zB ?_|refine zC ?_)
 refine Qa (λnq=>?_);obtain ⟨w8,hwb⟩: ∃W,W=wy.drewN nq:=⟨_,rfl⟩;have Ih:Kp No wy w8:=by rw [hwb];exact (Kp.refl No wy).drewN nq
 rw [<-hwb];have Jer:=zz Ih;have J5y:=zz (Gz.Q0 Ih);have Ks:=zz (M7.out.Q0 (Gz.Q0 Ih));have Jig:=zz (show ∀W,Kp No w8 W->W.rangeAt tb 0 [.int .i64 t1, .int .i64 t2] from λW hW=>Qs9.out W (Ks.out.Q0 hW));have Jfj: ∀W,Kp No w8 W->W.cell? ⟨p,1,none⟩=some (.pointer (some ⟨s,0,none⟩)):=λW hW=>Oy.out W (Ks.out.Q0 hW);have Jfs: ∀W,Kp No w8 W->W.cell? ⟨p,3,none⟩=some (.pointer (some ⟨x,0,none⟩)):=λW hW=>Db.out W (Ks.out.Q0 hW);have Jhl:=Ks.out.lt Qae.out;have Jhs:=Ks.out.lt Gg.out;clear Gz hwb Ih Jfi Jfr Jhk lt7
 have Q2k:=zz (λW (hW:Kp No w8 W)=>It W J9b J9c Jhi Jhj Q5 Q6 (Qza.out W (J42.out.Q0 (Jam.out.Q0 (J5y.out.Q0 hW)))) (Qzb.out W (Jam.out.Q0 (J5y.out.Q0 hW))) (J5a.out.trans Jdl.out.symm) (by
  have h1:=congrArg List.length J5a.out;rw [length_map] at h1;have:=(HV.out ⟨#[98]⟩ ⟨#[107]⟩ 2).2;omega) (λy hy=>(HV.out ⟨#[98]⟩ ⟨#[107]⟩ 2).1 y.p (by rw [<-J5a.out];exact mem_map.2 ⟨y,hy,rfl⟩)))
 rw [<-Je2.out,<-J3y.out] at Q2k;obtain ⟨es,hes⟩: ∃z,z=(Y2 st ⟨#[98]⟩ ⟨#[107]⟩ t1 t2 2).2:=⟨_,rfl⟩;rw [<-hes];clear hes Jfj Jfs Jhl Jhs;go_wp2_with fail
 refine (Q2k.out _ zK).mono ?_;rintro e w9 ⟨rfl,k9⟩;have hsm:=Iw a7 a8 c7 c8 _ _ gl gl w9 ((Rd.kp Q9y.out (Jeq.out.Q0 (J5y.out.Q0 k9)))) (Rd.kp Jeb.out (Jer.out.Q0 k9)) (by have:=Qye.out;omega);rw [<-Qx7.out.2.2.2] at hsm;have Qow:=zz hsm;have A5:=zz ((J5h.out.Q0 Ks.out).Q0 k9);clear k9 hsm Q2k;go_wp2_with fail
 refine Qow.out.mono ?_;rintro e wa ⟨rfl,m1,rfl⟩;simp only [decide_true];have Qd2:=zz (A5.out.drewN m1);clear Qow;go_wp2_with fail
 go_ret
 exact ⟨rfl,Qd2.out⟩
theorem Iv {w0 w:World} {p d s r x o B:Nat} {P:ByteArray} {st st':Ja} {ds ds':Qz} {lg X9:Jf} {H1 H2:Nat->Prop} (h:Qt w0 w p d s r x P o st ds lg st' ds' X9 B H1 H2) (he:Y0 st st') (hinv:Inv o st) (hB:B<=1000000) (hkn:st.keys.length<=1000000) (hm:Z7 st<=1000000000) (t1 t2:Int) (ht:t1<=9223372036854775807):
  Calls Tryz.prog 36 #[.pointer (some ⟨p,0,none⟩),Xl t1 t2] w λe w'=>e= .returned (.bool true)/\Kp No w w':=by
 obtain ⟨w1,hw1⟩: ∃W,W=w.alloc (.cells #[.int .i64 t1, .int .i64 t2] 25):=⟨_,rfl⟩;have k1:Kp No w w1:=by rw [hw1];exact zK.alloc _
 obtain ⟨tb,htb⟩: ∃b,b=w.heap.size:=⟨_,rfl⟩;have b1:w1.heap[tb]?=some (.cells #[.int .i64 t1, .int .i64 t2] 25 (0,0)):=by rw [hw1,htb];exact heap_alloc_new w _
 have c1:w1.cell? ⟨p,1,none⟩=some (.pointer (some ⟨s,0,none⟩)):=(h.no k1).at_ zK 1;have lp:=k1.lt (Q7 h.cell);have HB1:=zz b1;have HP:=zz (h.no k1);have Yq:=zz k1;have HW1:=zz (And.intro hw1 htb);have HI:=zz (And.intro hinv (And.intro hB (And.intro hkn hm)));have Hp:=zz he;have HI0:=zz (Kp.refl No w1);have Qae:=zz lp;clear h he hinv hB hkn hm hw1 htb b1 k1;go_enter Tryz.func36,Tryz.ntmps36
 go_upto_region 1 with fail
 rw [<-HW1.out.1,<-HW1.out.2];go_wp2_with fail
 go_loopw [5] (λi wr=> ∃z:Int, -1<=z/\z<=6/\i= .int .i64 z/\Hid (Kp No w1 wr)) (λi _=>(6-intOf i).toNat)
 case atStart=>exact ⟨-1,by decide,by decide,rfl,HI0⟩
 case round=>
  obtain ⟨z,hz0,Jck,rfl,HK⟩:=hrel;clear c1 lp HI0;by_cases hz:z<=5
  ·have e1:decide (z<=5)=true:=decide_eq_true hz;have c1:wr.cell? ⟨p,1,none⟩=some (.pointer (some ⟨s,0,none⟩)):=HP.out.at_ HK.out 1;have lp:=HK.out.lt Qae.out;have Kx:=zz ((HP.out.no HK.out).applied z hz0 hz);obtain ⟨sq,Q4w⟩: ∃v,v=(Qar st z).seq:=⟨_,rfl⟩;obtain ⟨sm,hsm⟩: ∃v,v=(Qar st z).m:=⟨_,rfl⟩;obtain ⟨sc,hsc⟩: ∃v,v=(Qar st z).c:=⟨_,rfl⟩;rw [<-Q4w,<-hsm,<-hsc] at Kx;have J54:=zz (And.intro Q4w (And.intro hsm hsc));clear Q4w hsm hsc;go_wp2_with fail
   refine Kx.out.mono ?_;rintro e w2 ⟨rfl,k2⟩;have J9:=zz (HK.out.Q0 k2);obtain ⟨w3,hw3⟩: ∃W,W=w2.alloc (.cells #[.int .i64 sm, .int .i64 sc] 25):=⟨_,rfl⟩;obtain ⟨q7,hq7⟩: ∃b,b=w2.heap.size:=⟨_,rfl⟩;have k3:Kp No w2 w3:=by rw [hw3];exact zK.alloc _
   have b3:w3.heap[q7]?=some (.cells #[.int .i64 sm, .int .i64 sc] 25 (0,0)):=by rw [hw3,hq7];exact heap_alloc_new w2 _
   have HW3:=zz (And.intro hw3 hq7);have HB3:=zz b3;have Zk:=zz (J9.out.Q0 k3);clear k2 hw3 hq7 k3 b3 c1 lp Kx;have c3:w3.cell? ⟨p,3,none⟩=some (.pointer (some ⟨x,0,none⟩)):=HP.out.at_ Zk.out 3;have lp:=Zk.out.lt Qae.out;have Kx:=zz ((HP.out.no Zk.out).Qnp z hz0 hz);rw [Hp.out.ap] at Kx;rw [<-J54.out.1,<-J54.out.2.1,<-J54.out.2.2] at Kx;go_upto_region 7 with fail
   rw [<-HW3.out.1,<-HW3.out.2];go_wp2_with fail
   refine Kx.out.mono ?_;rintro e w4 ⟨rfl,k4⟩;have HB4:=zz (k4.get HB3.out λx=>x);have Gf:=zz (Zk.out.Q0 k4);obtain ⟨w5,hw5⟩: ∃W,W=w4.alloc (.cells #[.int .i64 sm, .int .i64 sc] 25):=⟨_,rfl⟩;obtain ⟨q9,Qbt⟩: ∃b,b=w4.heap.size:=⟨_,rfl⟩;have k5:Kp No w4 w5:=by rw [hw5];exact zK.alloc _
   have b5:w5.heap[q9]?=some (.cells #[.int .i64 sm, .int .i64 sc] 25 (0,0)):=by rw [hw5,Qbt];exact heap_alloc_new w4 _
   have b7:=k5.get HB4.out λx=>x;have d0:w5.cell? ⟨q7,0,none⟩=some (.int .i64 sm):=Q4 b7 0;have d1:w5.cell? ⟨q7,1,none⟩=some (.int .i64 sc):=Q4 b7 1;have d2:w5.cell? ⟨q9,0,none⟩=some (.int .i64 sm):=Q4 b5 0;have d3:w5.cell? ⟨q9,1,none⟩=some (.int .i64 sc):=Q4 b5 1;have l7:=Q7 b7;have l9:=Q7 b5;have Q2w:=zz (And.intro hw5 Qbt);have Vb:=zz (Gf.out.Q0 k5);clear k4 hw5 Qbt k5 b5 b7 c3 lp Kx;go_upto_region 8 with fail
   rw [<-Q2w.out.1,<-Q2w.out.2];go_wp2_with fail
   go_roundw
   case rel=>exact ⟨z+1,by omega,by omega,by go_num,Vb⟩
   case measure=>simp [intOf];omega
  ·have e1:decide (z<=5)=false:=decide_eq_false hz;obtain rfl:z=6:=by omega
   clear hz e1;have c1:wr.cell? ⟨p,1,none⟩=some (.pointer (some ⟨s,0,none⟩)):=HP.out.at_ HK.out 1;have lp:=HK.out.lt Qae.out;have J9z:=zz (HP.out.no HK.out).Zc;go_wp2_with fail
   refine J9z.out.mono ?_;rintro e w2 ⟨rfl,k2⟩;have J9:=zz (HK.out.Q0 k2);clear k2 c1 lp J9z;have c1:w2.cell? ⟨p,1,none⟩=some (.pointer (some ⟨s,0,none⟩)):=HP.out.at_ J9.out 1;have lp:=J9.out.lt Qae.out;have Hx:=zz ((HP.out.no J9.out).keys HI.out.1 HI.out.2.1 HI.out.2.2.1 HI.out.2.2.2);obtain ⟨M,hM⟩: ∃M,M=Z7 st:=⟨_,rfl⟩;rw [<-hM] at Hx;go_wp2_with fail
   refine Hx.out.mono ?_;rintro e w3 ⟨na,nc,rfl,hN,k3⟩;obtain ⟨kn,hkn⟩: ∃k,k=(st.keys.map (·.1)).length:=⟨_,rfl⟩;rw [<-hkn];have HN:=zz (And.intro hN (show kn=st.keys.length from by rw [hkn,length_map]));have Zk:=zz (J9.out.Q0 k3);have J7t:kn<=1000000:=by have:=HN.out.2;have:=HI.out.2.2.1;omega
   clear hN k3 hkn c1 lp Hx;have Ap:=zz (HP.out.no Zk.out);obtain ⟨y,la,lc,cs,ka,kc,K,F,G,Qxv,_⟩:=Ap.out.ref;have hcl:cs.length=kn:=by rw [HN.out.2,<-Hp.out.keys,<-Qxv.st.Vd];unfold Jp;rw [length_map]
   have HX:=zz (And.intro Qxv.st hcl);obtain ⟨ag,hag⟩: ∃v,v=((st.Zc:Nat):Int):=⟨_,rfl⟩;obtain ⟨sn,hsn⟩: ∃v,v=((st.n:Nat):Int):=⟨_,rfl⟩;obtain ⟨mm,hmm⟩: ∃v,v=st.mm:=⟨_,rfl⟩;obtain ⟨mc,hmc⟩: ∃v,v=st.mc:=⟨_,rfl⟩;have c1: ∀W,Kp No w3 W->W.cell? ⟨p,1,none⟩=some (.pointer (some ⟨s,0,none⟩)):=λW hW=>Ap.out.at_ hW 1;have c3: ∀W,Kp No w3 W->W.cell? ⟨p,3,none⟩=some (.pointer (some ⟨x,0,none⟩)):=λW hW=>Ap.out.at_ hW 3;have x4: ∀W,Kp No w3 W->W.cell? ⟨x,4,none⟩=some (.int .i64 ag):=λW hW=>by rw [hag,<-Hp.out.rest.1];exact HX.out.1.at_ hW 4
   have x5: ∀W,Kp No w3 W->W.cell? ⟨x,5,none⟩=some (.slice la kn lc):=λW hW=>by rw [<-hcl];exact HX.out.1.at_ hW 5
   have x24: ∀W,Kp No w3 W->W.cell? ⟨x,24,none⟩=some (.int .i64 sn):=λW hW=>by rw [hsn,<-Hp.out.rest.2.1];exact HX.out.1.at_ hW 24
   have RX:=zz (show ∀W,Kp No w3 W->W.rangeAt x 6 [.int .i64 mm, .int .i64 mc] from λW hW=>by
    have:=Qg ((HX.out.1.Q9 hW).cell) 6 2;rw [hmm,hmc,<-Hp.out.rest.2.2.1,<-Hp.out.rest.2.2.2];exact this)
   have lp:=Zk.out.lt Qae.out;have lx:=Q7 HX.out.1.cell;have J5o:=zz (λW (hW:Kp No w3 W)=>(Ap.out.no hW).mark);rw [<-hmm,<-hmc] at J5o;simp only [Xl] at J5o;have Jaq:=zz (λW (hW:Kp No w3 W)=>(Ap.out.no hW).J3m (by rw [Hp.out.keys];exact HI.out.2.2.1) (by rw [Hp.out.many];exact HI.out.2.2.2));rw [Hp.out.many,<-hM] at Jaq;have J3u:=zz (λW (hW:Kp No w3 W)=>(Ap.out.no hW).kept HI.out.1 HI.out.2.1 0 1000);have Q9z:=zz (λW (hW:Kp No w3 W)=>(Ap.out.no hW).Qnr HI.out.2.1 0 1000);rw [Hp.out.kept] at Q9z
   have Qd3:=zz (show (V6 st 0 1000).length<=1000000 from by
    unfold V6;rw [List.length_take];have:(1000:Int).toNat=1000:=rfl;omega)
   have Q6e:=zz (And.intro lp lx);rw [<-hag,<-hsn];clear hM Qxv hcl hag hsn hmm hmc;go_upto_region 12 with fail
   refine zD No [0,0,0,0,0,0,0,0,0,0,0,0,0,0,0,0,0,0,0,0,0,0,0,0,0,2,0,0,0,0,0,0,0,0,0,0,0,0,0,0,0,2,0,0,0,0,0,0,0,0,0,0,0,0,0,0,0,0,0,0,0,0,2,0,0,0,0,2,2,0,0] [0,1,2,3,4,5,6,7,8,9,10,11,12,13,14,15,16,17,18,19,20,21,22,23,24,26,27,28,29,30,31,32,25,33,34,35,36,37,38,39,40,41,42,43,44,45,46,47,48,49,50,51,52,53,54,55,56,57,58,59,60,61,63,64,65,66,62,67,68,69,70] ?_;repeat (first|refine zA ?_|refine zB ?_|refine zC ?_)
   (try (apply Qb rfl rfl rfl;(focus (intro W hW;exact Qc 25 _ rfl x 6 rfl [.int .i64 mm, .int .i64 mc] _ (RX.out W hW) Tryz.underlying25 rfl (by kernel_rfl)));(focus (go_simp;rfl))))
   repeat (first|refine zA ?_|refine zB ?_|refine zC ?_)
   refine Q8 rfl rfl (λn1=>?_);go_wp2_with fail
   refine (J5o.out _ ((Kp.refl No w3).drewN n1)).mono ?_;rintro e w4 ⟨rfl,k4⟩;have k34:Kp No w3 w4:=k4.Qf;have Gf:=zz k34;clear k4;go_wp2_with fail
   (try refine ⟨k34,?_⟩)
   clear k34;repeat (first|refine zA ?_|refine zB ?_|refine zC ?_)
   refine Q8 rfl rfl (λn2=>?_);obtain ⟨Jd5,Qw7⟩: ∃W,W=World.drewN w4 n2:=⟨_,rfl⟩;have Qtv:=zz (show Kp No w3 Jd5 from by rw [Qw7];exact Gf.out.drewN n2);rw [<-Qw7];clear Qw7;go_wp2_with fail
   refine (Jaq.out _ Qtv.out).mono ?_;rintro e w5 ⟨rfl,rfl⟩;go_wp2_with fail
   (try refine ⟨Qtv.out,?_⟩)
   repeat (first|refine zA ?_|refine zB ?_|refine zC ?_)
   refine Q8 rfl rfl (λn3=>?_);obtain ⟨Ji7,Qw8⟩: ∃W,W=World.drewN Jd5 n3:=⟨_,rfl⟩;have Qyh:=zz (show Kp No w3 Ji7 from by rw [Qw8];exact Qtv.out.drewN n3);rw [<-Qw8];clear Qw8;go_wp2_with fail
   refine (J3u.out _ Qyh.out).mono ?_;rintro e w6 ⟨ra,rc,R1,rfl,hr1,he1,k6⟩;obtain ⟨rn,hrn⟩: ∃k,k=R1.length:=⟨_,rfl⟩;rw [<-hrn];have HR1:=zz (And.intro hr1 (And.intro he1 hrn));have Qwd:Kp No w3 w6:=Qyh.out.Q0 k6;have Fw:=zz Qwd;clear hr1 he1 hrn k6;go_wp2_with fail
   (try refine ⟨Qwd,?_⟩)
   clear Qwd;repeat (first|refine zA ?_|refine zB ?_|refine zC ?_)
   refine Q8 rfl rfl (λn4=>?_);obtain ⟨J9s,Qbx⟩: ∃W,W=World.drewN w6 n4:=⟨_,rfl⟩;have HD6:=zz (show Kp No w6 J9s from by rw [Qbx];exact (Kp.refl No w6).drewN n4);have Qyj:=zz (Fw.out.Q0 HD6.out);rw [<-Qbx];clear Qbx;go_wp2_with fail
   refine (Q9z.out _ Qyj.out).mono ?_;rintro e w7 ⟨sa,Ji4,R2,rfl,hr2,he2,k7⟩;obtain ⟨rm,hrm⟩: ∃k,k=R2.length:=⟨_,rfl⟩;rw [<-hrm];have HR2:=zz (And.intro hr2 (And.intro he2 hrm));have HD7:=zz (HD6.out.Q0 k7);have k37:Kp No w3 w7:=Qyj.out.Q0 k7;have M7:=zz k37;clear hr2 he2 hrm k7;go_wp2_with fail
   (try refine ⟨k37,?_⟩)
   clear k37;repeat (first|refine zA ?_|refine zB ?_|refine zC ?_)
   refine Q8 rfl rfl (λn5=>?_);obtain ⟨Jd6,Qw9⟩: ∃W,W=World.drewN w7 n5:=⟨_,rfl⟩;have Qtq:=zz (show Kp No w7 Jd6 from by rw [Qw9];exact (Kp.refl No w7).drewN n5);have J5m:=zz (M7.out.Q0 Qtq.out)
   have hrr:=Bh Jd6 ra sa rc Ji4 R1 R2 (HR1.out.1.kp (HD7.out.Q0 Qtq.out)) (HR2.out.1.kp Qtq.out) (HR1.out.2.1.trans HR2.out.2.1.symm) (by
    have h1:=congrArg List.length HR1.out.2.1;rw [length_map] at h1;have:=Qd3.out;omega)
   rw [<-HR1.out.2.2,<-HR2.out.2.2] at hrr;have HRR:=zz hrr;rw [<-Qw9];clear Qw9 hrr;go_wp2_with fail
   refine HRR.out.mono ?_;rintro e w8 ⟨rfl,k8⟩;have k38:Kp No w3 w8:=J5m.out.Q0 k8;have Ks:=zz k38;clear k8;go_wp2_with fail
   (try refine ⟨k38,?_⟩)
   clear k38;repeat (first|refine zA ?_|refine zB ?_|refine zC ?_)
   refine Qa (λnq=>?_);obtain ⟨w9,Mc⟩: ∃W,W=w8.drewN nq:=⟨_,rfl⟩;have A5:=zz (show Kp No w3 w9 from by rw [Mc];exact Ks.out.drewN nq);rw [<-Mc];clear Mc c1 c3 x4 x5 x24 lp lx;go_wp2_with fail
   go_loopw [14] (λi wr=> ∃k:Nat,k<=kn/\i= .int .i64 (k:Int)/\Hid (Kp No w3 wr)) (λi _=>kn-(intOf i).toNat)
   case atStart=>exact ⟨0,Nat.zero_le _,rfl,A5⟩
   case round=>
    obtain ⟨k,hk,rfl,Qev⟩:=hrel;rcases Nat.lt_or_ge k kn with hlt|hge
    ·have Y8:k<st.keys.length:=by have:=HN.out.2;omega
     have hkc:k<cs.length:=by rw [HX.out.2];exact hlt
     obtain ⟨g,off,hae,l0⟩:=Zb (f:=Xe) (c:=2) Ya (by decide) (Own.rd' HX.out.1.row) hkc;obtain ⟨key,hkey⟩: ∃key,key=cs[k].1:=⟨_,rfl⟩
     have hsk:st.keys[k].1=key:=by
      have h1:(Jp cs)[k]?=some (cs[k].1,cs[k].2.vs):=by
       unfold Jp;rw [List.getElem?_map,List.getElem?_eq_getElem hkc];rfl
      rw [HX.out.1.Vd,Hp.out.keys] at h1;rw [(List.getElem?_eq_some_iff.1 h1).2,hkey]
     have Qsq:((st.keys.map (·.1)).map Value.string)[k]?=some (.string key):=by
      rw [List.map_map,List.getElem?_map,List.getElem?_eq_getElem Y8,<-hsk];rfl
     obtain ⟨g2,Im,rfl,hgl,_,hgc⟩:=HN.out.1.at_ Qsq;have d0: ∀W,Kp No wr W->W.cell? ⟨g,off+k*2,none⟩=some (.string key):=λW hW=>by rw [hkey];exact l0 W (Qev.out.Q0 hW) 0 _ rfl
     have d1: ∀W,Kp No wr W->W.cell? ⟨g2,Im+k,none⟩=some (.string key):=λW hW=>((Qev.out.Q0 hW).cell (p:=⟨g2,Im+k,none⟩) hgl λx=>x).trans hgc;have c3: ∀W,Kp No wr W->W.cell? ⟨p,3,none⟩=some (.pointer (some ⟨x,0,none⟩)):=λW hW=>Ap.out.at_ (Qev.out.Q0 hW) 3
     have x5: ∀W,Kp No wr W->W.cell? ⟨x,5,none⟩=some (.slice (some ⟨g,off,none⟩) kn lc):=λW hW=>by
      have:=HX.out.1.at_ (Qev.out.Q0 hW) 5;rw [<-hae,<-HX.out.2];exact this
     have lg:g<wr.heap.size:=World.block_lt_of_cell? wr _ (d0 wr zK);have Qe1:=Qev.out.lt hgl;have lp:=Qev.out.lt Q6e.out.1;have lx:=Qev.out.lt Q6e.out.2;have hkk:(key.toList==key.toList)=true:=beq_self_eq_true _;clear Y8 hkc hae l0 hkey hsk Qsq hgl hgc;go_upto_region 17 with fail
     refine zD No [0,0,0,0,0,0,0,0,0,0,0,0,0,0,0,0] [0,1,2,3,4,5,6,7,8,9,10,11,12,13,14,15] ?_;repeat (first|refine zA ?_|refine zB ?_|refine zC ?_)
     refine Qa (λnq=>?_);have U3:=zz (Qev.out.drewN nq);clear d0 d1 c3 x5 lg Qe1 lp lx;go_wp2_with fail
     go_roundw
     case rel=>exact ⟨k+1,hlt,by go_num,U3⟩
     case measure=>simp [intOf];omega
    ·obtain rfl:k=kn:=by omega
     clear hge;have Qkq:Kp No w1 wr:=Zk.out.Q0 Qev.out;have Ky:=zz (Q90 (HP.out.no Qkq) Hp.out HI.out.1 HI.out.2.1 HI.out.2.2.1 t1 t2 ht);have R1:=zz (show wr.rangeAt tb 0 [.int .i64 t1, .int .i64 t2] from by have:=Qg (Qkq.get HB1.out λx=>x) 0 2;exact this);have J9h:=Qkq.lt (Q7 HB1.out);have Qd2:=zz (Yq.out.Q0 Qkq);simp only [Xl] at Ky;clear Qkq;go_wp2_with (refine Qj rfl 25 _ rfl tb 0 rfl _ _ R1 Tryz.underlying25 rfl (by kernel_rfl) ?_)
     refine Ky.out.mono ?_;rintro e wz ⟨rfl,kz⟩;have Lp:=zz (Qd2.out.Q0 kz);clear kz Ky;go_wp2_with fail
     go_ret
     exact ⟨rfl,Lp.out⟩
end Go.Proofs.YtgnkmjeoaoongaaGreatDoor
