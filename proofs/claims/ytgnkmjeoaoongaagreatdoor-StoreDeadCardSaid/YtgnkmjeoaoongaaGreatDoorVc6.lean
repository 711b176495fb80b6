/- store -/
import Derived.Test.YtgnkmjeoaoongaaGreatDoorVc5
import Derived.Test.YtgnkmjeoaoongaaGreatDoorVc3
set_option maxRecDepth 100000
set_option maxHeartbeats 4000000
namespace Go.Proofs.YtgnkmjeoaoongaaGreatDoor
open Go.RowKit Go.Mer
theorem Qmw {w:World} {s d l o m:Nat} {P:ByteArray} {st:Ja} {cs:Zn} {ka:Option Addr} {kc:Nat} {K:List Qe} (h:X6 w s d l P o st m cs ka kc K) (hof:Qo6 st.of)
  (a:Option Addr) (cap:Nat) (L:List Qe) (hL:Y1 w a L) (_hc:L.length<=cap) (hcm:L.length<=1000000):
  Calls Tryz.prog 56 #[.pointer (some ⟨s,0,none⟩), .slice a L.length cap] w λe w'=>e= .returned (.int .i64 (V7 st (L.map Qe.r):Nat))/\Kp No w w':=by
 obtain ⟨n,Xw⟩: ∃n,n=L.length:=⟨_,rfl⟩;have hsl:=Q7 h.cell;have H:=zz h;have HL:=zz hL;have HN:=zz Xw;have Qz2:=zz hof;have hnn:n<=1000000:=by omega
 rw [<-Xw];rcases Nat.lt_or_ge 64 n with h64|h64
 ·have d0:decide ((64:Int)<(n:Int))=true:=decide_eq_true (by omega);have d0':decide (64<n)=true:=decide_eq_true h64;have HV:=zz (Q89 (st:=st) (L:=L.map Qe.r) (by rw [List.length_map];omega));clear h hL hof Xw h64 _hc hcm;go_enter Tryz.func56,Tryz.ntmps56
  go_wp2_with fail
  go_ret
  exact ⟨by rw [HV.out];rfl,Kp.refl _ _⟩
 ·have d0:decide ((64:Int)<(n:Int))=false:=decide_eq_false (by omega);have d0':decide (64<n)=false:=decide_eq_false (by omega);have Qy8:=zz (show ¬64<(L.map Qe.r).length from by rw [List.length_map];omega);clear h hL hof Xw _hc hcm;go_enter Tryz.func56,Tryz.ntmps56
  go_wp2_with fail
  go_loopw [16] (λi wr=> ∃k:Nat,k<=n/\i= .int .i64 (k:Int)/\Hid (Kp No w wr)/\Hid (∀x∈L.take k,Z4 x.r=true)) (λi _=>n-(intOf i).toNat)
  case atStart=>exact ⟨0,Nat.zero_le _,rfl,zz zK,zz λx hx=>absurd hx (by simp)⟩
  case round=>
   obtain ⟨k,hk,rfl,HK,HA⟩:=hrel;rcases Nat.lt_or_ge k n with hlt|hge
   ·have Y8:k<L.length:=by have:=HN.out;omega
    obtain ⟨g,off,rfl,hgl,hgr⟩:=Jx HL.out.1 Y8;have hst:L.take (k+1)=L.take k++[L[k]]:=List.take_succ_eq_append_getElem Y8;have hxk:(L.map Qe.r)[k]?=some L[k].r:=by rw [List.getElem?_map,List.getElem?_eq_getElem Y8];rfl
    obtain ⟨x,hx⟩: ∃x,x=L[k]:=⟨_,rfl⟩;rw [<-hx] at hgr hst hxk;have R1:=zz (hgr wr HK.out);have hg3:=HK.out.lt hgl;obtain ⟨w5,hw5⟩: ∃W,W=wr.alloc (.cells (recC x).toArray 46):=⟨_,rfl⟩;have k5:Kp No wr w5:=by rw [hw5];exact zK.alloc _
    have b5:w5.heap[wr.heap.size]?=some (.cells (recC x).toArray 46 (0,0)):=by rw [hw5];exact heap_alloc_new wr _
    have R5:=zz (show w5.rangeAt wr.heap.size 0 (recC x) from by have:=Qg b5 0 9;exact this);have hl5:=Q7 b5;have HIS:=zz (Q8s x w5);have Q2w:=zz hw5;have Vb:=zz (HK.out.Q0 k5);have HST:=zz (And.intro hst hxk);clear hgr hst hxk k5 b5 hw5 hx hgl Y8;cases Ql9:Z4 x.r with
    |true=>
     have Qov:=zz Ql9;clear Ql9
     go_upto_region 6 with (first
      |(refine Qj rfl 46 _ rfl g (off+k*9) rfl _ _ R1 Tryz.underlying46 rfl (by kernel_rfl) ?_)
      |(refine Qy rfl 46 _ _ rfl wr.heap.size (by rfl) _ _ _ rfl rfl (by kernel_rfl) (by rfl) (by rfl) ?_))
     rw [<-Q2w.out];go_wp2_with (refine Qj rfl 46 _ rfl wr.heap.size 0 rfl _ _ R5 Tryz.underlying46 rfl (by kernel_rfl) ?_)
     refine HIS.out.mono ?_;rintro e w6 ⟨rfl,k6⟩;rw [Qov.out];have Fw:=zz (Vb.out.Q0 k6)
     have J53:=zz (show ∀y∈L.take (k+1),Z4 y.r=true from λy hy=>by
      rw [HST.out.1] at hy;rcases List.mem_append.1 hy with hy|hy
      ·exact HA.out y hy
      ·rw [List.mem_singleton] at hy;rw [hy];exact Qov.out)
     clear k6;go_wp2_with fail
     go_roundw
     case rel=>exact ⟨k+1,hlt,by go_num,Fw,J53⟩
     case measure=>simp [intOf];omega
    |false=>
     have Qov:=zz (Q8a (st:=st) Qy8.out HST.out.2 Ql9);have J5v:=zz Ql9;clear Ql9
     go_upto_region 6 with (first
      |(refine Qj rfl 46 _ rfl g (off+k*9) rfl _ _ R1 Tryz.underlying46 rfl (by kernel_rfl) ?_)
      |(refine Qy rfl 46 _ _ rfl wr.heap.size (by rfl) _ _ _ rfl rfl (by kernel_rfl) (by rfl) (by rfl) ?_))
     rw [<-Q2w.out];go_wp2_with (refine Qj rfl 46 _ rfl wr.heap.size 0 rfl _ _ R5 Tryz.underlying46 rfl (by kernel_rfl) ?_)
     refine HIS.out.mono ?_;rintro e w6 ⟨rfl,k6⟩;rw [J5v.out];have Fw:=zz (Vb.out.Q0 k6);clear k6;go_wp2_with fail
     go_ret
     exact ⟨by rw [Qov.out];rfl,Fw.out⟩
   ·obtain rfl:n=k:=by omega
    have hall: ∀x∈L,Z4 x.r=true:=λx hx=>by
     have:=HA.out;rw [HN.out,List.take_length] at this;exact this x hx
    have Ew: ∀r∈L.map Qe.r,Z4 r=true:=λr hr=>by
     obtain ⟨x,hx,rfl⟩:=List.mem_map.1 hr;exact hall x hx
    have hval:=Qc3 (st:=st) Qy8.out Ew
    have J6a:=zz (show wr.rangeAt s 10 (Mf st.of) from by
     have:=Qg ((H.out.Q9 HK.out).cell) 10 15;rwa [Qej] at this)
    have Qqb:=HK.out.lt hsl;obtain ⟨w7,hw7⟩: ∃W,W=wr.alloc (.cells (Mf st.of).toArray 131):=⟨_,rfl⟩;have k7:Kp No wr w7:=by rw [hw7];exact zK.alloc _
    have b7:w7.heap[wr.heap.size]?=some (.cells (Mf st.of).toArray 131 (0,0)):=by rw [hw7];exact heap_alloc_new wr _
    have Qo2:=zz hw7;have M7:=zz (HK.out.Q0 k7);have Cw:=zz b7;have Qib:=zz (And.intro hall Ew);have Qir:=zz hval;obtain ⟨q,hq⟩: ∃q,q=wr.heap.size:=⟨_,rfl⟩;rw [<-hq] at Cw;have HQ:=zz (show w.heap.size<=q by rw [hq];exact HK.out.size);clear hall Ew hval hw7 k7 b7 HA hge
    go_upto_region 10 with (first
     |(refine Qj rfl 131 _ rfl s 10 rfl _ _ J6a Tryz.underlying131 rfl (by kernel_rfl) ?_)
     |(refine Qy rfl 131 _ _ rfl wr.heap.size (by rfl) _ _ _ rfl rfl (by kernel_rfl) (by rfl) (by rfl) ?_))
    rw [<-Qo2.out,<-hq];clear hq;have Qew:=zz (show Xx st.mm st.mc st.of (L.map Qe.r)=Xx st.mm st.mc (Cl st.of ((L.map Qe.r).take 0)) ((L.map Qe.r).drop 0) from rfl);go_wp2_with fail
    go_loopw [30] (λi wr=> ∃k:Nat,k<=n/\i= .int .i64 (k:Int)/\Hid (Kp No w wr)/\Hid (wr.heap[q]?=some (.cells (Mf (Cl st.of ((L.map Qe.r).take k))).toArray 131 (0,0)))/\Hid (Xx st.mm st.mc st.of (L.map Qe.r)=Xx st.mm st.mc (Cl st.of ((L.map Qe.r).take k)) ((L.map Qe.r).drop k))) (λi _=>n-(intOf i).toNat)
    case atStart=>exact ⟨0,Nat.zero_le _,rfl,M7,Cw,Qew⟩
    case round=>
     clear Qew Cw M7;obtain ⟨j,hj,rfl,HK,HB,Qew⟩:=hrel;rcases Nat.lt_or_ge j n with hlt|hge
     ·have Lm:j<L.length:=by have:=HN.out;omega
      obtain ⟨g,off,rfl,hgl,hgr⟩:=Jx HL.out.1 Lm;have hxk:(L.map Qe.r)[j]?=some L[j].r:=by rw [List.getElem?_map,List.getElem?_eq_getElem Lm];rfl
      have hxi:=Qib.out.1 L[j] (List.getElem_mem Lm);have Q4u:=(Qz2.out.upto ((L.map Qe.r).take j) λr hr=>Qib.out.2 r (List.mem_of_mem_take hr))
      have hst:Cl st.of ((L.map Qe.r).take (j+1))=Z2 (Cl st.of ((L.map Qe.r).take j)) L[j].r:=by
       rw [List.take_succ_eq_append_getElem (by rw [List.length_map];exact Lm),Q0y,List.getElem_map]
      have Qkz:=Qe3 _ j _ hxk Qew.out;obtain ⟨x,hx⟩: ∃x,x=L[j]:=⟨_,rfl⟩;obtain ⟨OF,Qkb⟩: ∃OF,OF=Cl st.of ((L.map Qe.r).take j):=⟨_,rfl⟩;rw [<-Qkb] at Q4u hst Qkz HB;rw [<-hx] at hgr hst hxi Qkz;rw [hst] at Qkz;obtain ⟨hv,e1,e2,e3,_⟩:=Y9.1 hxi;obtain ⟨_,o1,o2,_⟩:=Zi.1 hv;obtain ⟨oN,Q3f⟩: ∃oN:Nat,x.r.o=(oN:Int):=⟨x.r.o.toNat,by omega⟩;have A8:oN<5:=by omega
      have Q7d:x.r.o.toNat=oN:=by omega
      have hrc:recC x=[.int .i64 (oN:Int), .int .i64 x.r.seq, .string x.r.key, .int .i64 x.r.v.m, .int .i64 x.r.v.c, .int .i64 x.r.v.o,x.sl, .bool x.r.v.gone, .int .i64 x.r.v.ttl]:=by unfold recC;rw [Q3f]
      rw [hrc] at hgr;have R1:=zz (hgr wr HK.out);have hg3:=HK.out.lt hgl;obtain ⟨w8,hw8⟩: ∃W,W=wr.alloc (.cells #[.int .i64 (oN:Int), .int .i64 x.r.seq, .string x.r.key, .int .i64 x.r.v.m, .int .i64 x.r.v.c, .int .i64 x.r.v.o,x.sl, .bool x.r.v.gone, .int .i64 x.r.v.ttl] 46):=⟨_,rfl⟩;have k8:Kp No wr w8:=by rw [hw8];exact zK.alloc _
      have b8:w8.heap[wr.heap.size]?=some (.cells #[.int .i64 (oN:Int), .int .i64 x.r.seq, .string x.r.key, .int .i64 x.r.v.m, .int .i64 x.r.v.c, .int .i64 x.r.v.o,x.sl, .bool x.r.v.gone, .int .i64 x.r.v.ttl] 46 (0,0)):=by rw [hw8];exact heap_alloc_new wr _
      obtain ⟨p,hpq⟩: ∃p,p=wr.heap.size:=⟨_,rfl⟩;rw [<-hpq] at b8;have Qvv:=Q7 b8;have hq8:=Q7 (k8.get HB.out λx=>x);have c0:w8.cell? ⟨p,0,none⟩=some (.int .i64 (oN:Int)):=Q4 b8 0;have Qzq:=zz hw8;have Ks:=zz (HK.out.Q0 k8);have Gc:=zz (And.intro b8 (k8.get HB.out λx=>x));have HST:=zz (And.intro hst (And.intro Qkz (And.intro Q4u (And.intro Q7d hxi))));have Qxg:=zz (show w.heap.size<=p from by rw [hpq];exact HK.out.size);have Q4w:=Q4u.low oN;have Qlf:0<=x.r.seq/\x.r.seq<=1099511627776:=⟨by omega,e3⟩;clear hgr hst Qkz k8 b8 hw8 hx Qkb hgl Lm hxk hxi Q4u hv e1 e2 e3 o1 o2 Q3f Q7d hrc Qew HB
      go_upto_region 13 with (first
       |(refine Qj rfl 46 _ rfl g (off+j*9) rfl _ _ R1 Tryz.underlying46 rfl (by kernel_rfl) ?_)
       |(refine Qy rfl 46 _ _ rfl wr.heap.size (by rfl) _ _ _ rfl rfl (by kernel_rfl) (by rfl) (by rfl) ?_))
      rw [<-Qzq.out,<-hpq];clear hpq;go_upto_region 14 with fail
      obtain ⟨sq,Q4x⟩: ∃sq,sq=(Qn OF oN).seq:=⟨_,rfl⟩;obtain ⟨m0,hm0⟩: ∃m0,m0=(Qn OF oN).m:=⟨_,rfl⟩;obtain ⟨c00,Qbd⟩: ∃c0,c0=(Qn OF oN).c:=⟨_,rfl⟩;have hg3':=U9 OF A8;rw [<-Q4x] at Q4w;rw [<-Q4x,<-hm0,<-Qbd] at hg3';have Qpn: ∀W,Kp No w8 W->W.cell? ⟨p,1,none⟩=some (.int .i64 x.r.seq):=λW hW=>Q4 (hW.get Gc.out.1 λx=>x) 1
      have Qpo: ∀W,Kp No w8 W->W.cell? ⟨q,oN*3,none⟩=some (.int .i64 sq):=λW hW=>by
       rw [Q4 (hW.get Gc.out.2 λx=>x)];simpa using hg3'.1
      have RP:=zz (show ∀W,Kp No w8 W->W.rangeAt p 3 [.int .i64 x.r.v.m, .int .i64 x.r.v.c] from λW hW=>by have:=Qg (hW.get Gc.out.1 λx=>x) 3 2;exact this)
      have RQ:=zz (show ∀W,Kp No w8 W->W.rangeAt q (oN*3+1) [.int .i64 m0, .int .i64 c00] from λW hW=>by
       intro jj v hj;rw [Q4 (hW.get Gc.out.2 λx=>x)];match jj,hj with
       |0,hj=>injection hj with hj;subst hj;simpa using hg3'.2.1
       |1,hj=>injection hj with hj;subst hj;simpa using hg3'.2.2)
      have RS:=zz (show ∀W,Kp No w8 W->W.rangeAt s 8 [.int .i64 st.mm, .int .i64 st.mc] from λW hW=>by have:=Qg ((H.out.Q9 (Ks.out.Q0 hW)).cell) 8 2;exact this);obtain ⟨s1,hs1⟩: ∃s1,s1=sq+1:=⟨_,rfl⟩;have hws:wrap64 (sq+1)=s1:=by rw [IntWalk.wrap64_in _ (by omega),hs1]
      have J8n:IntKind.i64.wrap (sq+1)=s1:=(IntWalk.i64_in _ (by omega)).trans hs1.symm;have hs8:=Ks.out.lt hsl;obtain ⟨z1,hz1⟩: ∃z,z=Z6 x.r.v.m x.r.v.c m0 c00:=⟨_,rfl⟩;obtain ⟨z2,hz2⟩: ∃z,z=Z6 x.r.v.m x.r.v.c st.mm st.mc:=⟨_,rfl⟩;have hcm1:=λW=>Vn x.r.v.m x.r.v.c m0 c00 W;have hcm2:=λW=>Vn x.r.v.m x.r.v.c st.mm st.mc W;rw [<-hz1] at hcm1;rw [<-hz2] at hcm2;have HCM:=zz (And.intro hcm1 hcm2)
      have hstep:Uv st.mm st.mc OF x.r=(decide (x.r.seq=s1)&&(decide (0<z1)&&decide (0<z2))):=by
       rw [Le,HST.out.2.2.2.1,<-Q4x,<-hs1,<-hm0,<-Qbd];congr 1
       congr 1
       ·rw [Bool.eq_iff_iff,decide_eq_true_iff,hz1,(Vf _ _ _ _).2.2]
       ·rw [Bool.eq_iff_iff,decide_eq_true_iff,hz2,(Vf _ _ _ _).2.2]
      have Ot:=zz hstep
      have Qac:=zz (show Uv st.mm st.mc OF x.r=false->V7 st (L.map Qe.r)=12 from λhf=>by
       rw [Qir.out,HST.out.2.1,hf];rfl)
      clear Q4x hm0 Qbd hg3' hs1 hz1 hz2 hcm1 hcm2 hstep c0 Qlf;by_cases q1:x.r.seq=s1
      ·have e1:(x.r.seq==s1)=true:=by rw [beq_iff_eq];exact q1
       have e2:(x.r.seq !=s1)=false:=by rw [bne,e1];rfl
       have Qs7:=zz q1;clear q1;rcases Int.lt_or_le 0 z1 with q2|q2
       ·have e3:decide (z1<=0)=false:=decide_eq_false (by omega);have Qu4:=zz q2;clear q2;rcases Int.lt_or_le 0 z2 with q3|q3
        ·have e4:decide (z2<=0)=false:=decide_eq_false (by omega);have Qz9:=zz q3;clear q3;refine zD No [0,0,0,0,0,0,0,0,0,0,0,0,0,0,0,0,2,0,0,0,0,0,0,0,0,0,0,2,0,0] [0,1,2,3,4,5,6,7,8,9,10,11,12,13,14,15,16,17,18,19,20,21,22,23,24,25,26,27,28,29] ?_;repeat (first|refine zA ?_|refine zB ?_|refine zC ?_)
         apply Qb rfl rfl rfl
         ·intro W hW;exact Qc 25 _ rfl p 3 rfl [.int .i64 x.r.v.m, .int .i64 x.r.v.c] _ (RP.out W hW) Tryz.underlying25 rfl (by kernel_rfl)
         ·(focus (go_simp;rfl))
         repeat (first|refine zA ?_|refine zB ?_|refine zC ?_)
         apply Qb rfl rfl rfl
         ·intro W hW;exact Qc 25 _ rfl q (oN*3+1) rfl [.int .i64 m0, .int .i64 c00] _ (RQ.out W hW) Tryz.underlying25 rfl (by kernel_rfl)
         ·(focus (go_simp;rfl))
         refine Q8 rfl rfl (λn1=>?_);go_wp2_with fail
         refine (HCM.out.1 _).mono ?_;rintro e wa ⟨rfl,Ln⟩;have ka:Kp No w8 wa:=Ln.Qf;clear Ln;go_wp2_with fail
         (try refine ⟨ka,?_⟩)
         repeat (first|refine zA ?_|refine zB ?_|refine zC ?_)
         apply Qb rfl rfl rfl
         ·intro W hW;exact Qc 25 _ rfl p 3 rfl [.int .i64 x.r.v.m, .int .i64 x.r.v.c] _ (RP.out W hW) Tryz.underlying25 rfl (by kernel_rfl)
         ·(focus (go_simp;rfl))
         repeat (first|refine zA ?_|refine zB ?_|refine zC ?_)
         apply Qb rfl rfl rfl
         ·intro W hW;exact Qc 25 _ rfl s 8 rfl [.int .i64 st.mm, .int .i64 st.mc] _ (RS.out W hW) Tryz.underlying25 rfl (by kernel_rfl)
         ·(focus (go_simp;rfl))
         refine Q8 rfl rfl (λn2=>?_);go_wp2_with fail
         refine (HCM.out.2 _).mono ?_;rintro e wb ⟨rfl,Qll⟩;have kb:Kp No w8 wb:=ka.Q0 Qll.Qf;clear Qll ka;go_wp2_with fail
         (try refine ⟨kb,?_⟩)
         repeat (first|refine zA ?_|refine zB ?_|refine zC ?_)
         refine Qa (λnq=>?_);obtain ⟨wd,hwd⟩: ∃W,W=wb.drewN nq:=⟨_,rfl⟩;have kd:Kp No w8 wd:=by rw [hwd];exact kb.drewN nq
         have bp:=kd.get Gc.out.1 λx=>x;have bq:=kd.get Gc.out.2 λx=>x;have c1:wd.cell? ⟨p,1,none⟩=some (.int .i64 x.r.seq):=Q4 bp 1;have c3:wd.cell? ⟨p,3,none⟩=some (.int .i64 x.r.v.m):=Q4 bp 3;have c4:wd.cell? ⟨p,4,none⟩=some (.int .i64 x.r.v.c):=Q4 bp 4;have J4p:=Q7 bp;have J87:=Q7 bq;have D3:=zz (Ks.out.Q0 kd);have Ji8:=zz bq;rw [<-hwd];have hT:=HST.out.2.2.2.1;have hset:=Q5e OF HST.out.2.2.1.five A8 ⟨x.r.seq,x.r.v.m,x.r.v.c⟩;have hnew:Z2 OF x.r=OF.set oN ⟨x.r.seq,x.r.v.m,x.r.v.c⟩:=by unfold Z2;rw [hT]
         have h9:=Ql (Ql (Ql bq (oN*3) (.int .i64 x.r.seq)) (oN*3+1) (.int .i64 x.r.v.m)) (oN*3+2) (.int .i64 x.r.v.c)
         have Qy9:=zz (show (((wd.setCell ⟨q,oN*3,none⟩ (.int .i64 x.r.seq)).setCell ⟨q,oN*3+1,none⟩ (.int .i64 x.r.v.m)).setCell ⟨q,oN*3+2,none⟩ (.int .i64 x.r.v.c)).heap[q]?=some (.cells (Mf (Cl st.of ((L.map Qe.r).take (j+1)))).toArray 131 (0,0)) from by
          rw [h9,HST.out.1,hnew,<-hset];simp)
         have A5:=zz (show Kp No w (((wd.setCell ⟨q,oN*3,none⟩ (.int .i64 x.r.seq)).setCell ⟨q,oN*3+1,none⟩ (.int .i64 x.r.v.m)).setCell ⟨q,oN*3+2,none⟩ (.int .i64 x.r.v.c)) from
          ((D3.out.setCell (p:=⟨q,oN*3,none⟩) (.inr HQ.out) _).setCell (p:=⟨q,oN*3+1,none⟩) (.inr HQ.out) _).setCell (p:=⟨q,oN*3+2,none⟩) (.inr HQ.out) _)
         have Qu0:=zz (show Xx st.mm st.mc st.of (L.map Qe.r)=Xx st.mm st.mc (Cl st.of ((L.map Qe.r).take (j+1))) ((L.map Qe.r).drop (j+1)) from by
          rw [HST.out.2.1,Ot.out,decide_eq_true Qs7.out,decide_eq_true Qu4.out,decide_eq_true Qz9.out,HST.out.1];rfl)
         have f0:=Qh bq (oN*3);have f1:=Qh bq (oN*3+1);have f2:=Qh bq (oN*3+2);have g3:=U9 OF A8;have g0:wd.cell? ⟨q,oN*3,none⟩=some (.int .i64 (Qn OF oN).seq):=by rw [Q4 bq];simpa using g3.1
         have g1:wd.cell? ⟨q,oN*3+1,none⟩=some (.int .i64 (Qn OF oN).m):=by rw [Q4 bq];simpa using g3.2.1
         have g2:wd.cell? ⟨q,oN*3+2,none⟩=some (.int .i64 (Qn OF oN).c):=by rw [Q4 bq];simpa using g3.2.2
         clear hwd kb kd bp bq Qpn Qpo hT hset hnew h9 g3;go_wp2_with fail
         go_roundw
         case rel=>exact ⟨j+1,hlt,by go_num,A5,Qy9,Qu0⟩
         case measure=>simp [intOf];omega
        ·have e4:decide (z2<=0)=true:=decide_eq_true q3;have HF:=zz (Qac.out (by rw [Ot.out,decide_eq_false (show ¬0<z2 by omega)];simp));clear q3;refine zD No [0,0,0,0,0,0,0,0,0,0,0,0,0,0,0,0,2,0,0,0,0,0,0,0,0,0,0,2,0,0] [0,1,2,3,4,5,6,7,8,9,10,11,12,13,14,15,16,17,18,19,20,21,22,23,24,25,26,27,28,29] ?_;repeat (first|refine zA ?_|refine zB ?_|refine zC ?_)
         apply Qb rfl rfl rfl
         ·intro W hW;exact Qc 25 _ rfl p 3 rfl [.int .i64 x.r.v.m, .int .i64 x.r.v.c] _ (RP.out W hW) Tryz.underlying25 rfl (by kernel_rfl)
         ·(focus (go_simp;rfl))
         repeat (first|refine zA ?_|refine zB ?_|refine zC ?_)
         apply Qb rfl rfl rfl
         ·intro W hW;exact Qc 25 _ rfl q (oN*3+1) rfl [.int .i64 m0, .int .i64 c00] _ (RQ.out W hW) Tryz.underlying25 rfl (by kernel_rfl)
         ·(focus (go_simp;rfl))
         refine Q8 rfl rfl (λn1=>?_);go_wp2_with fail
         refine (HCM.out.1 _).mono ?_;rintro e wa ⟨rfl,Ln⟩;have ka:Kp No w8 wa:=Ln.Qf;clear Ln;go_wp2_with fail
         (try refine ⟨ka,?_⟩)
         repeat (first|refine zA ?_|refine zB ?_|refine zC ?_)
         apply Qb rfl rfl rfl
         ·intro W hW;exact Qc 25 _ rfl p 3 rfl [.int .i64 x.r.v.m, .int .i64 x.r.v.c] _ (RP.out W hW) Tryz.underlying25 rfl (by kernel_rfl)
         ·(focus (go_simp;rfl))
         repeat (first|refine zA ?_|refine zB ?_|refine zC ?_)
         apply Qb rfl rfl rfl
         ·intro W hW;exact Qc 25 _ rfl s 8 rfl [.int .i64 st.mm, .int .i64 st.mc] _ (RS.out W hW) Tryz.underlying25 rfl (by kernel_rfl)
         ·(focus (go_simp;rfl))
         refine Q8 rfl rfl (λn2=>?_);go_wp2_with fail
         refine (HCM.out.2 _).mono ?_;rintro e wb ⟨rfl,Qll⟩;have kb:Kp No w8 wb:=ka.Q0 Qll.Qf;clear Qll ka;go_wp2_with fail
         (try refine ⟨kb,?_⟩)
         repeat (first|refine zA ?_|refine zB ?_|refine zC ?_)
         refine Qa (λnq=>?_);have D3:=zz ((Ks.out.Q0 kb).drewN nq);clear kb Qpn Qpo;go_wp2_with fail
         go_ret
         exact ⟨by rw [HF.out];rfl,D3.out⟩
       ·have e3:decide (z1<=0)=true:=decide_eq_true q2;have HF:=zz (Qac.out (by rw [Ot.out,decide_eq_false (show ¬0<z1 by omega)];simp));clear q2;refine zD No [0,0,0,0,0,0,0,0,0,0,0,0,0,0,0,0,2,0,0,0,0,0,0,0,0,0,0,2,0,0] [0,1,2,3,4,5,6,7,8,9,10,11,12,13,14,15,16,17,18,19,20,21,22,23,24,25,26,27,28,29] ?_;repeat (first|refine zA ?_|refine zB ?_|refine zC ?_)
        apply Qb rfl rfl rfl
        ·intro W hW;exact Qc 25 _ rfl p 3 rfl [.int .i64 x.r.v.m, .int .i64 x.r.v.c] _ (RP.out W hW) Tryz.underlying25 rfl (by kernel_rfl)
        ·(focus (go_simp;rfl))
        repeat (first|refine zA ?_|refine zB ?_|refine zC ?_)
        apply Qb rfl rfl rfl
        ·intro W hW;exact Qc 25 _ rfl q (oN*3+1) rfl [.int .i64 m0, .int .i64 c00] _ (RQ.out W hW) Tryz.underlying25 rfl (by kernel_rfl)
        ·(focus (go_simp;rfl))
        refine Q8 rfl rfl (λn1=>?_);go_wp2_with fail
        refine (HCM.out.1 _).mono ?_;rintro e wa ⟨rfl,Ln⟩;have ka:Kp No w8 wa:=Ln.Qf;clear Ln;go_wp2_with fail
        (try refine ⟨ka,?_⟩)
        repeat (first|refine zA ?_|refine zB ?_|refine zC ?_)
        refine Zt rfl rfl (by rfl) rfl (λn2=>⟨ka.drewN n2,?_⟩);repeat (first|refine zA ?_|refine zB ?_|refine zC ?_)
        refine Qa (λnq=>?_);have D3:=zz (((Ks.out.Q0 ka).drewN n2).drewN nq);clear ka Qpn Qpo;go_wp2_with fail
        go_ret
        exact ⟨by rw [HF.out];rfl,D3.out⟩
      ·have e1:(x.r.seq==s1)=false:=by rw [beq_eq_false_iff_ne];exact q1
       have e2:(x.r.seq !=s1)=true:=by rw [bne,e1];rfl
       have HF:=zz (Qac.out (by rw [Ot.out,decide_eq_false q1];rfl));clear q1;refine zD No [0,0,0,0,0,0,0,0,0,0,0,0,0,0,0,0,2,0,0,0,0,0,0,0,0,0,0,2,0,0] [0,1,2,3,4,5,6,7,8,9,10,11,12,13,14,15,16,17,18,19,20,21,22,23,24,25,26,27,28,29] ?_;repeat (first|refine zA ?_|refine zB ?_|refine zC ?_)
       refine Zt rfl rfl (by rfl) rfl (λn1=>⟨zK.drewN n1,?_⟩);repeat (first|refine zA ?_|refine zB ?_|refine zC ?_)
       refine Zt rfl rfl (by rfl) rfl (λn2=>⟨((Kp.refl No _).drewN n1).drewN n2,?_⟩);repeat (first|refine zA ?_|refine zB ?_|refine zC ?_)
       refine Qa (λnq=>?_);have D3:=zz (((Ks.out.drewN n1).drewN n2).drewN nq);clear Qpn Qpo;go_wp2_with fail
       go_ret
       exact ⟨by rw [HF.out];rfl,D3.out⟩
     ·have hjn:j=n:=by omega
      have HF:=zz (show V7 st (L.map Qe.r)=0 from by
       rw [Qir.out,Qew.out,hjn,HN.out,List.drop_of_length_le (by rw [List.length_map];exact Nat.le_refl _)];rfl)
      clear hjn;go_wp2_with fail
      go_ret
      exact ⟨by rw [HF.out];rfl,HK.out⟩
end Go.Proofs.YtgnkmjeoaoongaaGreatDoor
