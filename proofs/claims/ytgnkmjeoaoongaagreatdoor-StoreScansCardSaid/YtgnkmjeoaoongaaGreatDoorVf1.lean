/- store -/
import Derived.Test.YtgnkmjeoaoongaaGreatDoorVe8
set_option maxRecDepth 100000
set_option maxHeartbeats 8000000
namespace Go.Proofs.YtgnkmjeoaoongaaGreatDoor
open Go.RowKit Go.Mer
theorem Qjm (t1 t2:Int):Zq t1 t2 0 0=decide (Z6 t1 t2 0 0<0):=by
 rw [Bool.eq_iff_iff,decide_eq_true_iff];exact (Vf t1 t2 0 0).2.1.symm
theorem Qci (w:World) (Yo:Pow w) (a:Option Addr) (cap:Nat) (L:List RowR) (hL:RowsIn w a L) (hcp:L.length<=cap) (hl:L.length<=140737488351232) (t1 t2:Int) (f t:ByteArray) (most:Int) (ht:t1<=9223372036854775807) (hf:f.size<=140737488351232) (htt:t.size<=140737488351232):
  Calls Tryz.prog 5 #[.slice a L.length cap,Xl t1 t2, .string f, .string t, .int .i64 most] w λe w'=>e= .returned (.bool true)/\Kp No w w':=by
 obtain ⟨n,Xw⟩: ∃n,n=L.length:=⟨_,rfl⟩;obtain ⟨wA,hwA⟩: ∃W,W=w.alloc (.cells #[.int .i64 t1, .int .i64 t2] 25):=⟨_,rfl⟩;obtain ⟨w1,hw1⟩: ∃W,W=wA.alloc (.cells #[.int .i64 0, .int .i64 0, .int .u8 0, .int .i64 0, .int .i64 0, .slice a n cap, .slice none 0 0] 28):=⟨_,rfl⟩;obtain ⟨tb,htb⟩: ∃b,b=w.heap.size:=⟨_,rfl⟩;obtain ⟨b,hb⟩: ∃b,b=wA.heap.size:=⟨_,rfl⟩;have kA:Kp No w wA:=by rw [hwA];exact zK.alloc _
 have k1:Kp No wA w1:=by rw [hw1];exact zK.alloc _
 have bt:wA.heap[tb]?=some (.cells #[.int .i64 t1, .int .i64 t2] 25 (0,0)):=by rw [hwA,htb];exact heap_alloc_new w _
 have Qli:=kA.Q0 k1;have hh:=L4 w1 b a cap L (by rw [hw1,hb,Xw];exact heap_alloc_new wA _) (hL.kp Qli) hl;have HT:=zz (k1.get bt λx=>x);have HH:=zz hh;have HW:=zz (And.intro hwA (And.intro hw1 (And.intro htb hb)));have Yq:=zz Qli;have HN:=zz Xw;have HL:=zz hL;have Dd:=zz Yo;rw [<-Xw] at hcp⊢;simp only [Xl];have Qs1:=zz hcp;clear Yo hL hl hwA hw1 htb hb kA k1 bt Qli hh Xw hcp;go_enter Tryz.func5,Tryz.ntmps5
 go_upto_region 1 with fail
 rw [<-HW.out.1,<-HW.out.2.2.1];go_wp2_with fail
 rw [<-HW.out.2.1,<-HW.out.2.2.2];refine HH.out.mono ?_;rintro e w2 ⟨hb,rfl,himp,k2⟩;have J9:=zz (Yq.out.Q0 k2);have HT2:=zz (k2.get HT.out λx=>x);clear k2 HH HT himp;cases hb with
 |true=>
  have U3:=zz (Jv w2 (Dd.out.keep J9.out));go_wp2_with fail
  refine U3.out.mono ?_;rintro e wz ⟨rfl,kz⟩;have Lp:=zz (J9.out.Q0 kz);clear kz U3;go_wp2_with fail
  go_ret
  exact ⟨rfl,Lp.out⟩
 |false=>
  rcases Nat.lt_or_ge 80 n with h64|h64
  ·have d1:decide ((80:Int)<(n:Int))=true:=decide_eq_true (by omega);have d1':decide (80<n)=true:=decide_eq_true h64;clear h64;have U3:=zz (Jv w2 (Dd.out.keep J9.out));go_wp2_with fail
   refine U3.out.mono ?_;rintro e wz ⟨rfl,kz⟩;have Lp:=zz (J9.out.Q0 kz);clear kz U3;go_wp2_with fail
   go_ret
   exact ⟨rfl,Lp.out⟩
  have d1:decide ((80:Int)<(n:Int))=false:=decide_eq_false (by omega);have d1':decide (80<n)=false:=decide_eq_false (by omega);rcases Nat.lt_or_ge 200 (f.size+t.size) with h20|h20
  ·have d2:decide ((200:Int)<(f.size:Int)+(t.size:Int))=true:=decide_eq_true (by omega);have J6j:decide (200<f.size+t.size)=true:=decide_eq_true h20;clear h20;have U3:=zz (Jv w2 (Dd.out.keep J9.out));go_wp2_with fail
   refine U3.out.mono ?_;rintro e wz ⟨rfl,kz⟩;have Lp:=zz (J9.out.Q0 kz);clear kz U3;go_wp2_with fail
   go_ret
   exact ⟨rfl,Lp.out⟩
  have d2:decide ((200:Int)<(f.size:Int)+(t.size:Int))=false:=decide_eq_false (by omega);have J6j:decide (200<f.size+t.size)=false:=decide_eq_false (by omega);have hfl:=Gw w2 (Dd.out.keep J9.out) a cap L (HL.out.kp J9.out) (by rw [<-HN.out];exact Qs1.out) (by rw [<-HN.out];exact h64);rw [<-HN.out] at hfl;have Ao:=zz hfl;clear hfl;go_wp2_with fail
  refine Ao.out.mono ?_;rintro e w3 ⟨p,d,s,r,x,H1,H2,st,ds,lg,rfl,hP,hq⟩;have hfil:=Q4l hq (by omega);have c1: ∀W,Kp No w3 W->W.cell? ⟨p,1,none⟩=some (.pointer (some ⟨s,0,none⟩)):=λW hW=>hP.at_ hW 1;have lp:=Q7 hP.cell;have Zk:=zz (J9.out.Q0 hP.kp);have HT3:=zz (hP.kp.get HT2.out λx=>x);have RT:=zz (show ∀W,Kp No w3 W->W.rangeAt tb 0 [.int .i64 t1, .int .i64 t2] from λW hW=>by have:=Qg (hW.get HT3.out λx=>x) 0 2;exact this);have htl:=Q7 HT3.out
  have J5z:=zz (show ∀q,Calls Tryz.prog 31 #[.pointer (some ⟨s,0,none⟩), .string f, .string t,Xl t1 t2, .int .i64 most] (w3.drewN q) (Cz (w3.drewN q) (Y2 st f t t1 t2 most).1 (Y2 st f t t1 t2 most).2) from λq=>
   (hP.no ((Kp.refl No w3).drewN q)).scan hfil.inv (by omega) (by have:=hfil.keys;omega) f t t1 t2 most ht)
  have K7:=zz hfil;have Ap:=zz hP;simp only [Xl] at J5z;clear hP hq hfil Ao HT2;go_upto_region 6 with fail
  refine zD No [0,0,0,0,0,0,0,0,2,0,0,0,0,0] [0,1,2,3,4,5,6,7,8,9,10,11,12,13] ?_;repeat (first|refine zA ?_|refine zB ?_|refine zC ?_)
  (try (apply Qb rfl rfl rfl;(focus (intro W hW;exact Qc 25 _ rfl tb 0 rfl [.int .i64 t1, .int .i64 t2] _ (RT.out W hW) Tryz.underlying25 rfl (by kernel_rfl)));(focus (go_simp;rfl))))
  repeat (first|refine zA ?_|refine zB ?_|refine zC ?_)
  refine Q8 rfl rfl (λn1=>?_);go_wp2_with fail
  refine (J5z.out n1).mono ?_;rintro e w4 ⟨la,lc,Q,rfl,hQ,Qdr,Qdq,k4⟩;have Gz:Kp No w3 w4:=k4.Qf;obtain ⟨qn,Ql5⟩: ∃k,k=Q.length:=⟨_,rfl⟩;rw [<-Ql5];have Qs8:=zz (And.intro hQ (And.intro Qdr (And.intro Qdq Ql5)));clear hQ Qdr Qdq Ql5 k4 J5z;obtain ⟨er,her⟩: ∃z,z=(Y2 st f t t1 t2 most).2:=⟨_,rfl⟩;rw [<-her];have Ja4:=zz her;clear her;go_wp2_with fail
  (try refine ⟨Gz,?_⟩)
  repeat (first|refine zA ?_|refine zB ?_|refine zC ?_)
  refine Qa (λnq=>?_);obtain ⟨w5,hw5⟩: ∃W,W=w4.drewN nq:=⟨_,rfl⟩;have Q66:Kp No w4 w5:=by rw [hw5];exact (Kp.refl No w4).drewN nq
  rw [<-hw5];have Vb:=zz (Gz.Q0 Q66);have Qza:=zz (show Rd w5 w5.heap.size la (Q.flatMap Qa4)/\ ∀x∈Q,Rd w5 w5.heap.size x.a (u8s x.val) from ⟨Rd.kp Qs8.out.1 Q66,λx hx=>Rd.kp (Qs8.out.2.1 x hx) Q66⟩);have R5:=zz (RT.out w5 Vb.out);have c15:=c1 w5 Vb.out;have Qte:=Vb.out.lt lp;have J9i:=Vb.out.lt htl;obtain ⟨z,hz⟩: ∃z,z=Z6 t1 t2 0 0:=⟨_,rfl⟩;have HCM:=zz (Fq t1 t2 0 0 w5);rw [<-hz] at HCM;have hz2:=Qjm t1 t2;rw [<-hz] at hz2;have HZ:=zz hz2;simp only [Xl] at HCM;clear hz hz2 hw5 Q66 Gz c1;cases hs:decide (z<0) with
  |true=>
   have HE:=zz (show er=19/\qn=0 from by
    have h1:Zq t1 t2 st.mm st.mc=true:=by rw [K7.out.mark.1,K7.out.mark.2,HZ.out,hs]
    have h2:=Q1i (f:=f) (t:=t) (most:=most) h1;have h3:=Qs8.out.2.2.1;have h4:=Ja4.out;rw [h2] at h3 h4;refine ⟨h4,?_⟩;rw [Qs8.out.2.2.2];simpa using congrArg List.length h3)
   obtain ⟨rfl,rfl⟩:=HE.out;clear HE;go_wp2_with (refine Qj rfl 25 _ rfl tb 0 rfl _ _ R5 Tryz.underlying25 rfl (by kernel_rfl) ?_)
   refine HCM.out.mono ?_;rintro e w6 ⟨rfl,k6⟩;have Fw:=zz ((Zk.out.Q0 Vb.out).Q0 k6);clear k6 HCM;have U3:=zz (Jv w6 (Dd.out.keep Fw.out));go_wp2_with fail
   refine U3.out.mono ?_;rintro e wz ⟨rfl,kz⟩;have Lp:=zz (Fw.out.Q0 kz);clear kz U3;go_wp2_with fail
   go_ret
   exact ⟨rfl,Lp.out⟩
  |false=>
   have Qxc:=zz (show ¬Zq t1 t2 st.mm st.mc=true from by rw [K7.out.mark.1,K7.out.mark.2,HZ.out,hs];decide)
   have HE:=zz (show er=0/\Q.map Cy.p=Vm t1 t2 f t most.toNat st.keys from by
    have h2:=Q1h (f:=f) (t:=t) (most:=most) Qxc.out;have h3:=Qs8.out.2.2.1;have h4:=Ja4.out;rw [h2] at h3 h4;exact ⟨h4,h3⟩)
   obtain rfl:=HE.out.1;go_wp2_with (refine Qj rfl 25 _ rfl tb 0 rfl _ _ R5 Tryz.underlying25 rfl (by kernel_rfl) ?_)
   refine HCM.out.mono ?_;rintro e w6 ⟨rfl,k6⟩;have Ma:=zz ((Ap.out.no Vb.out).no k6);have Fw:=zz ((Zk.out.Q0 Vb.out).Q0 k6);have Qxi:=zz (k6.get (Vb.out.get HT3.out λx=>x) λx=>x);have Qzb:=zz (show Rd w6 w6.heap.size la (Q.flatMap Qa4)/\ ∀x∈Q,Rd w6 w6.heap.size x.a (u8s x.val) from ⟨Rd.kp Qza.out.1 k6,λx hx=>Rd.kp (Qza.out.2 x hx) k6⟩);have c16:w6.cell? ⟨p,1,none⟩=some (.pointer (some ⟨s,0,none⟩)):=Ma.out.at_ zK 1;have J33:=Q7 Ma.out.cell;have Hx:=zz (Ma.out.keys K7.out.inv (by omega) (by have:=K7.out.keys;omega) (by have:=K7.out.many;omega));clear k6 HCM c15 Qte J9i R5 lp htl RT;go_wp2_with fail
   refine Hx.out.mono ?_;rintro e w7 ⟨na,nc,rfl,hN,k7⟩;obtain ⟨kn,hkn⟩: ∃k,k=(st.keys.map (·.1)).length:=⟨_,rfl⟩;rw [<-hkn];have Qyt:=zz (And.intro hN (show kn=st.keys.length from by rw [hkn,List.length_map]));have Qim:=zz (Ma.out.no k7);have M7:=zz (Fw.out.Q0 k7);have Qsa:=zz (k7.get Qxi.out λx=>x);have J5u:=zz (show Rd w7 w7.heap.size la (Q.flatMap Qa4)/\ ∀x∈Q,Rd w7 w7.heap.size x.a (u8s x.val) from ⟨Rd.kp Qzb.out.1 k7,λx hx=>Rd.kp (Qzb.out.2 x hx) k7⟩);have J7t:kn<=80:=by have:=K7.out.keys;have:=Qyt.out.2;omega
   have Qod:qn<=kn:=by
    have h1:=congrArg List.length HE.out.2;rw [List.length_map,<-Qs8.out.2.2.2,<-Ki] at h1;have h2:=Ci (m:=t1) (c:=t2) (f:=f) (t:=t) (M:=most.toNat) (l:=st.keys) (k:=st.keys.length);rw [<-Qyt.out.2] at h1 h2;omega
   clear hN k7 hkn Hx c16 J33 Ma Qxi Qzb Qza Ap;go_wp2_with fail
   go_loopw [17,18] (λv i wr=> ∃k lo:Nat,k<=kn/\v= .int .i64 (lo:Int)/\i= .int .i64 (k:Int)/\lo<=k/\Hid (lo=(Yn t1 t2 f t most.toNat st.keys k).length)/\Hid (Kp No w7 wr)) (λ_ i _=>kn-(intOf i).toNat)
   case atStart=>exact ⟨0,0,Nat.zero_le _,rfl,rfl,Nat.le_refl _,zz (by rw [L9];rfl),zz zK⟩
   case round=>
    obtain ⟨k,lo,hk,rfl,rfl,hlk,Kt,HK⟩:=hrel;rcases Nat.lt_or_ge k kn with hlt|hge
    ·have Y8:k<st.keys.length:=by have:=Qyt.out.2;omega
     obtain ⟨kx,hkx⟩: ∃x,x=st.keys[k]:=⟨_,rfl⟩;obtain ⟨key,hkey⟩: ∃key,key=kx.1:=⟨_,rfl⟩
     have Qsq:((st.keys.map (·.1)).map Value.string)[k]?=some (.string key):=by
      rw [List.map_map,List.getElem?_map,List.getElem?_eq_getElem Y8,hkey,hkx];rfl
     obtain ⟨g,off,rfl,hgl,_,hgc⟩:=Qyt.out.1.at_ Qsq;have ck: ∀W,Kp No wr W->W.cell? ⟨g,off+k,none⟩=some (.string key):=λW hW=>((HK.out.Q0 hW).cell (p:=⟨g,off+k,none⟩) hgl λx=>x).trans hgc;have Q4s:=HK.out.lt hgl;have c1: ∀W,Kp No wr W->W.cell? ⟨p,1,none⟩=some (.pointer (some ⟨s,0,none⟩)):=λW hW=>Qim.out.at_ (HK.out.Q0 hW) 1;have lp:=HK.out.lt (Q7 Qim.out.cell);have RT:=zz (show ∀W,Kp No wr W->W.rangeAt tb 0 [.int .i64 t1, .int .i64 t2] from λW hW=>by have:=Qg ((HK.out.Q0 hW).get Qsa.out λx=>x) 0 2;exact this);have htl:=HK.out.lt (Q7 Qsa.out)
     have hch:Qw st.keys key=kx.2:=by
      unfold Qw;rw [hkey,Xc (Vw K7.out.inv.sorted) (v:=kx.2) (by rw [hkx];exact List.getElem_mem Y8)];rfl
     have HG:=zz (λq=>(Qim.out.no (HK.out.drewN q)).get K7.out.inv (by omega) key t1 t2 ht);simp only [Xl] at HG;have HX:=zz (And.intro (show ∃h:k<st.keys.length,kx=st.keys[k] from ⟨Y8,hkx⟩) (And.intro hkey hch));clear Y8 hkx hkey Qsq hgc hgl hch;go_upto_region 14 with fail
     refine zD No [0,0,0,0,0,0,0,0,0,2,0,0,0,0,0,0,0] [0,1,2,3,4,5,6,7,8,9,10,11,12,13,14,15,16] ?_;repeat (first|refine zA ?_|refine zB ?_|refine zC ?_)
     (try (apply Qb rfl rfl rfl;(focus (intro W hW;exact Qc 25 _ rfl tb 0 rfl [.int .i64 t1, .int .i64 t2] _ (RT.out W hW) Tryz.underlying25 rfl (by kernel_rfl)));(focus (go_simp;rfl))))
     repeat (first|refine zA ?_|refine zB ?_|refine zC ?_)
     refine Q8 rfl rfl (λn1=>?_);go_wp2_with fail
     refine (HG.out n1).mono ?_;intro e wv hq;obtain ⟨v,bi,eg,rfl,kv,J1b⟩:=Qut (l:=kx.2) hq λ_=>by rw [HX.out.2.2]
     have hgo:=J1b.new Qxc.out;obtain ⟨rfl,hgo⟩:=hgo;have kv':Kp No wr wv:=kv.Qf;have Ja8:=zz hgo;clear hq J1b hgo kv HG;go_wp2_with fail
     (try refine ⟨kv',?_⟩)
     repeat (first|refine zA ?_|refine zB ?_|refine zC ?_)
     refine Qa (λnq=>?_);obtain ⟨wq,hwq⟩: ∃W,W=wv.drewN nq:=⟨_,rfl⟩;have J98:Kp No wv wq:=by rw [hwq];exact (Kp.refl No wv).drewN nq
     rw [<-hwq];have kq:=kv'.Q0 J98;have Qyl:=zz kq;have Jej:=zz J98;have Dc:=zz (HK.out.Q0 kq);have J6g:=ck wq kq;have Jcs:=kq.lt Q4s;obtain ⟨bb,hbb⟩: ∃bb,bb=(!bi||(!Xp f t key||decide (most<=(lo:Int)))):=⟨_,rfl⟩;have Gd:=zz hbb;have Q6b:=zz (Oa f t key);clear kv' hwq J98 kq ck c1 lp htl Q4s RT hbb;go_upto_region 17 with fail
     go_cut [129] from 103 to 128 (λJ9l wx=>J9l= .bool bb/\wx=wq)
     case first=>
      cases bi with
      |false=>
       obtain rfl:bb=true:=by rw [Gd.out];rfl
       go_wp2_with fail
       go_meet
       case rel=>exact ⟨rfl,rfl⟩
      |true=>
       cases h1:Op.bytesLess key.toList f.toList with
       |true=>
        obtain rfl:bb=true:=by rw [Gd.out,Q6b.out,h1];rfl
        go_wp2_with fail
        go_meet
        case rel=>exact ⟨rfl,rfl⟩
       |false=>
        by_cases h3:t.toList=[]
        ·have A7:t.toList.isEmpty=true:=by rw [h3];rfl
         have HE2:=zz (show Xp f t key=true by rw [Q6b.out,h1,A7];rfl);clear A7;by_cases h5:most<=(lo:Int)
         ·have e5:decide (most<=(lo:Int))=true:=decide_eq_true h5;obtain rfl:bb=true:=by rw [Gd.out,e5,Bool.or_true,Bool.or_true]
          clear h5;go_wp2_with fail
          go_meet
          case rel=>exact ⟨rfl,rfl⟩
         ·have e5:decide (most<=(lo:Int))=false:=decide_eq_false h5;obtain rfl:bb=false:=by rw [Gd.out,e5,HE2.out];rfl
          clear h5;go_wp2_with fail
          go_meet
          case rel=>exact ⟨rfl,rfl⟩
        ·have A7:t.toList.isEmpty=false:=by rw [Bool.eq_false_iff];exact λhh=>h3 (List.isEmpty_iff.1 hh)
         cases h4:Op.bytesLess key.toList t.toList with
         |false=>
          obtain rfl:bb=true:=by rw [Gd.out,Q6b.out,h1,A7,h4];rfl
          clear A7;go_wp2_with fail
          go_meet
          case rel=>exact ⟨rfl,rfl⟩
         |true=>
          have HE2:=zz (show Xp f t key=true by rw [Q6b.out,h1,A7,h4];rfl);clear A7;by_cases h5:most<=(lo:Int)
          ·have e5:decide (most<=(lo:Int))=true:=decide_eq_true h5;obtain rfl:bb=true:=by rw [Gd.out,e5,Bool.or_true,Bool.or_true]
           clear h5;go_wp2_with fail
           go_meet
           case rel=>exact ⟨rfl,rfl⟩
          ·have e5:decide (most<=(lo:Int))=false:=decide_eq_false h5;obtain rfl:bb=false:=by rw [Gd.out,e5,HE2.out];rfl
           clear h5;go_wp2_with fail
           go_meet
           case rel=>exact ⟨rfl,rfl⟩
     case rest=>
     obtain ⟨rfl,rfl⟩:=hcut;rename World=>wq;obtain ⟨Y8,hkx⟩:=HX.out.1;cases hb:bb with
     |true=>
      have HS:=zz (show lo=(Yn t1 t2 f t most.toNat st.keys (k+1)).length from by
       have hh:=Gd.out;rw [hb] at hh;rcases Bool.or_eq_true_iff.1 hh.symm with h1|h1
       ·rw [L8 Y8]
        ·exact Kt.out
        ·rw [<-hkx];have h1:bi=false:=by simpa using h1
         rcases Ja8.out with h2|⟨u,_,_,_,_,h2,_⟩
         ·cases hi:Xp f t kx.1 with
          |true=>rw [Ix hi,h2.1];rfl
          |false=>exact Iy hi
         ·rw [h1] at h2;cases h2
       ·rcases Bool.or_eq_true_iff.1 h1 with h1|h1
        ·rw [L8 Y8]
         ·exact Kt.out
         ·rw [<-hkx];exact Iy (by rw [<-HX.out.2.1];simpa using h1)
        ·have h2:=of_decide_eq_true h1;rw [Q0p Y8 (by rw [<-Kt.out];omega)];exact Kt.out)
      clear Y8 hkx J6g Jcs;go_wp2_with fail
      go_roundw
      case rel=>exact ⟨k+1,lo,hlt,rfl,by go_num,by omega,HS,Dc⟩
      case measure=>simp [intOf];omega
     |false=>
      have hh:=Gd.out;rw [hb] at hh;have h2:=Bool.or_eq_false_iff.1 hh.symm;have h3:=Bool.or_eq_false_iff.1 h2.2;have hbi:bi=true:=by simpa using h2.1
      have hin:Xp f t key=true:=by simpa using h3.1
      have hlm:(lo:Int)<most:=by have:=of_decide_eq_false h3.2;omega
      rcases Ja8.out with hno|⟨u,ua,uc,hu1,hu2,_,Jcd⟩
      ·rw [hno.2.2] at hbi;cases hbi
      have hsc:X4 t1 t2 f t st.keys[k]=some (key,u):=by rw [<-hkx,Ix (by rw [<-HX.out.2.1];exact hin),hu1,<-HX.out.2.1];rfl
      have hat:=Qlr Y8 hsc (M:=most.toNat) (by rw [<-Kt.out];omega);have hst:=Q0q Y8 hsc (M:=most.toNat) (by rw [<-Kt.out];omega);rw [<-HE.out.2,<-Kt.out,List.getElem?_map] at hat;obtain ⟨y,hy,hye⟩:=Option.map_eq_some_iff.1 hat;have J7y:=(List.getElem?_eq_some_iff.1 hy).1;have Jci:=(List.getElem?_eq_some_iff.1 hy).2;obtain ⟨g2,Im,rfl,Qpz⟩:=Zb (f:=Qa4) Q5j (by decide) J5u.out.1 J7y;rw [Jci] at Qpz;have hyk:y.key=key:=congrArg Prod.fst hye;have hyv:y.val=u:=congrArg Prod.snd hye;have e0: ∀W,Kp No wq W->W.cell? ⟨g2,Im+lo*2,none⟩=some (.string key):=λW hW=>by rw [<-hyk];exact Qpz W (Dc.out.Q0 hW) 0 _ rfl
      have e1: ∀W,Kp No wq W->W.cell? ⟨g2,Im+lo*2+1,none⟩=some (.slice y.a u.length y.cap):=λW hW=>by rw [<-hyv];exact Qpz W (Dc.out.Q0 hW) 1 _ rfl
      have Jfd: ∀W,Kp No wq W->W.cell? ⟨g,off+k,none⟩=some (.string key):=λW hW=>(hW.cell (p:=⟨g,off+k,none⟩) Jcs λx=>x).trans J6g
      have J7m:g2<wq.heap.size:=by
       obtain ⟨g',off',e',hl',_⟩:=J5u.out.1 (by rw [Xt Qa4 2 Q5j];omega);injection e' with e';injection e' with e1 e2;rw [e1];exact Dc.out.lt hl'
      have hlq:lo<qn:=by rw [Qs8.out.2.2.2];exact J7y
      have hsm:=λq=>Iw y.a ua y.cap uc _ _ u u (wq.drewN q) (by rw [<-hyv];exact (Rd.kp (J5u.out.2 y (List.mem_of_getElem? hy)) Dc.out).drewN q) ((Rd.kp Jcd Jej.out).drewN q) (by have:=Q53 (λv hv=>(K7.out.inv.keys kx (by rw [hkx];exact List.getElem_mem Y8)).2.2.2.2 v hv|>.1) hu1;omega);have Qow:=zz hsm;have HST:=zz (show lo+1=(Yn t1 t2 f t most.toNat st.keys (k+1)).length from by rw [hst,List.length_append,<-Kt.out];rfl);have hkk:(key.toList==key.toList)=true:=beq_self_eq_true _;obtain ⟨un,hun⟩: ∃k,k=u.length:=⟨_,rfl⟩;rw [<-hun] at e1 Qow hu2;subst hu2;have J87:decide ((qn:Int)<=(lo:Int))=false:=decide_eq_false (by omega);have J88:decide (qn<=lo)=false:=decide_eq_false (by omega);clear hh h2 h3 hin hu1 Jcd hsc hat hst hy hye J7y Jci Qpz hyk hyv hsm hun Y8 hkx J6g;go_upto_region 18 with fail
      refine zD No [0,0,0,0,0,0,0,0,0,0,0,0,0,0,0,0,0,0,0,0,0,0,0,2,0,0] [0,1,2,3,4,5,6,7,8,9,10,11,12,13,14,15,16,17,18,19,20,21,22,23,24,25] ?_;repeat (first|refine zA ?_|refine zB ?_|refine zC ?_)
      refine Q8 rfl rfl (λn1=>?_);go_wp2_with fail
      refine (Qow.out n1).mono ?_;rintro e ws ⟨rfl,m1,rfl⟩;simp only [decide_true];go_wp2_with fail
      (try refine ⟨(Kp.refl No wq).drewN _,?_⟩)
      repeat (first|refine zA ?_|refine zB ?_|refine zC ?_)
      refine Qa (λnq=>?_);have Qd2:=zz (Dc.out.Q0 ((Kp.refl No wq).drewN (n1+m1+nq)));clear e0 e1 Jfd J7m Qow;go_wp2_with fail
      go_roundw
      case rel=>exact ⟨k+1,lo+1,hlt,by go_num,by go_num,by omega,HST,Qd2⟩
      case measure=>simp [intOf];omega
    ·obtain rfl:k=kn:=by omega
     have hlq:lo=qn:=by
      have h1:=congrArg List.length HE.out.2;rw [List.length_map,<-Qs8.out.2.2.2,<-Ki,<-Qyt.out.2,<-Kt.out] at h1;exact h1.symm
     subst hlq;have Qd3:=zz (M7.out.Q0 HK.out);clear hge;have U3:=zz (Jv wr (Dd.out.keep Qd3.out));go_wp2_with fail
     refine U3.out.mono ?_;rintro e wz ⟨rfl,kz⟩;have Lp:=zz (Qd3.out.Q0 kz);clear kz U3;go_wp2_with fail
     go_ret
     exact ⟨rfl,Lp.out⟩
end Go.Proofs.YtgnkmjeoaoongaaGreatDoor
