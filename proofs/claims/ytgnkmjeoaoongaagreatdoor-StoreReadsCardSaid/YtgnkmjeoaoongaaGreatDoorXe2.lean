/-
  RD3, SNextW.
-/
import Derived.Test.YtgnkmjeoaoongaaGreatDoorXe1
set_option maxRecDepth 100000
set_option maxHeartbeats 4000000
namespace Go.Proofs.YtgnkmjeoaoongaaGreatDoor
open Go.RowKit Go.Mer
theorem Qhz (room:Nat) (w:World) (hhi:room<=1073741824):
  Calls Tryz.prog 50 #[.int .i64 (room:Int)] w λe w'=> ∃r,e= .returned (.tuple #[.pointer (some ⟨r,0,none⟩), .int .i64 0])/\Kp No w w'/\ ∃G,Di w' r ⟨room,none,[]⟩ G/\ ∀k,G k->w.heap.size<=k:=by
 go_enter Tryz.func50,Tryz.ntmps50
 go_wp2_with fail
 go_ret2
 refine ⟨_,rfl,zK.alloc _,λk=>k=w.heap.size,⟨.slice none 0 0,[],⟨heap_alloc_new w _,by simpa using Own.nil _ 170 3,by simp,List.Pairwise.nil,by simp [Z5,Jl],hhi,by simp,by simp [leftOf],by simp [leftOf]⟩,List.Perm.refl _,?_,?_⟩,?_⟩
 ·rintro k (rfl|hk|⟨f,hf,_⟩)
  ·rfl
  ·cases hk
  ·cases hf
 ·rintro k rfl;simp
 ·rintro k rfl;exact Nat.le_refl _
theorem Qrt (r y:Nat) (P:ByteArray) (o:Nat) (st:J7) (lv kv:Value):((Vu r y P o st lv kv).toList.drop 8).take 15=Nn st.of:=rfl
def Qev (Qe3 w:World) (of:List Jt) (L:List RowR) (e:Ending) (w':World):Prop:=
 ∃(b:Option Addr) (c:Nat) (R:List Qa),e= .returned (.slice b R.length c)/\Own w' 46 9 (.slice b R.length c) R.length (R.flatMap recC)/\R.map Qa.r=Hk of (L.map RowR.r)/\(∀y∈R,y.rd Qe3)/\(∀g,(Value.slice b R.length c).ownBlock=some g->w.heap.size<=g)/\Kp No w w'
structure Qzt (Qe3 w:World) (q:Nat) (of:List Jt) (L:List RowR) (j:Nat) (ra:Option Addr) (c:Nat) (R:List Qa) (wr:World):Prop where
 row:Qq 46 9 recC w wr (.slice ra j c) j R
 done:wr.heap[q]?=some (.cells (Nn (G8 of ((L.take j).map RowR.r))).toArray 62 (0,0))
 rd: ∀y∈R,y.rd Qe3
 eq:R.map Qa.r=Hk of ((L.take j).map RowR.r)
theorem Qcs {w:World} {x r y o:Nat} {P:ByteArray} {st:J7} {la ka:Option Addr} {lc kc:Nat} {cs:Z7} {K:List Qa} (h:Xx w x r y P o st la lc cs ka kc K) (hof:Q0f 0 st.of) (a:Option Addr) (cap:Nat) (L:List RowR) {Qe3:World} (hL0:RowsIn Qe3 a L) (hk0:Kp No Qe3 w) (hn:L.length<=1000):
  Calls Tryz.prog 16 #[.pointer (some ⟨x,0,none⟩), .slice a L.length cap] w (Qev Qe3 w st.of L):=by
 have hL:=hL0.kp hk0;obtain ⟨n,U2⟩: ∃n,n=L.length:=⟨_,rfl⟩;have hnn:n<=1000:=by omega
 have hxl:=Q3 h.cell
 have RX:=zz (show w.rangeAt x 8 (Nn st.of) from by
  have:=Qb h.cell 8 15;rwa [Qrt] at this)
 obtain ⟨w1,hw1⟩: ∃W,W=w.alloc (.cells (Nn st.of).toArray 62):=⟨_,rfl⟩;have k1:Kp No w w1:=by rw [hw1];exact zK.alloc _
 obtain ⟨q,hq⟩: ∃q,q=w.heap.size:=⟨_,rfl⟩;have b1:w1.heap[q]?=some (.cells (Nn st.of).toArray 62 (0,0)):=by rw [hw1,hq];exact heap_alloc_new w _
 have HI0:=zz (show Qzt Qe3 w q st.of L 0 none 0 [] w1 from ⟨(Qq.nil 46 9 recC w).keep k1,b1,λy hy=>absurd hy List.not_mem_nil,rfl⟩);have HL:=zz hL;have J70:=zz hL0;have Qnk:=zz hof;have HN:=zz U2;have HQ:=zz hq;have HW1:=zz hw1;rw [<-U2];clear h hof hL hL0 hk0 hn U2 hq hw1 k1 b1;go_enter Tryz.func16,Tryz.ntmps16
 go_upto_region 3 with (first
  |(refine Qe rfl 62 _ rfl x 8 rfl _ _ RX Tryz.underlying62 rfl (by kernel_rfl) ?_)
  |(refine Qy rfl 62 _ _ rfl w.heap.size (by rfl) _ _ _ rfl rfl (by kernel_rfl) (by rfl) (by rfl) ?_))
 rw [<-HW1.out,<-HQ.out];go_wp2_with fail
 go_loopw [5,7] (λv i wr=> ∃(j c:Nat) (ra:Option Addr) (R:List Qa),j<=n/\i= .int .i64 (j:Int)/\v= .slice ra j c/\Hid (Qzt Qe3 w q st.of L j ra c R wr)) (λ_ i _=>n-(intOf i).toNat)
 case atStart=>exact ⟨0,0,none,[],Nat.zero_le _,rfl,rfl,HI0⟩
 case round=>
  clear HI0;obtain ⟨j,c,ra,R,hj,rfl,rfl,HI⟩:=hrel;rcases Nat.lt_or_ge j n with hlt|hge
  ·have He:j<L.length:=by have:=HN.out;omega
   obtain ⟨g,off,rfl,hgl,hgr⟩:=row_range HL.out.1 He;have hkr:=HI.out.row.2.2.2;have hxa:=J70.out.2 _ (List.getElem_mem He);have hst:(L.take (j+1)).map RowR.r=(L.take j).map RowR.r++[L[j].r]:=by rw [List.take_succ_eq_append_getElem He,List.map_append];rfl
   have Qby:Q0f (0+j) (G8 st.of ((L.take j).map RowR.r)):=by
    have:=Qnk.out.upto ((L.take j).map RowR.r);rwa [List.length_map,List.length_take,Nat.min_eq_left (by omega)] at this
   obtain ⟨OF,Qg1⟩: ∃OF,OF=G8 st.of ((L.take j).map RowR.r):=⟨_,rfl⟩;have hsn:=Bx ((L.take j).map RowR.r) st.of L[j].r;rw [<-hst,<-Qg1] at hsn;rw [<-Qg1] at Qby;have hdn:=HI.out.done;rw [<-Qg1] at hdn;obtain ⟨xx,hx⟩: ∃x,x=L[j]:=⟨_,rfl⟩;rw [<-hx] at hgr hxa hsn;obtain ⟨⟨ro,af,key,val,gone,ttl⟩,va,vc⟩:=xx;obtain ⟨v10,J22,J0y⟩:=Qhh ro;obtain ⟨A,hA,J8e⟩:=Q1e af;obtain ⟨oN,Q1a⟩: ∃oN,oN=v10 % 5:=⟨_,rfl⟩;have C7:oN<5:=by omega
   have Qnz:Ku ⟨ro,af,key,val,gone,ttl⟩=oN:=by unfold Ku;rw [J0y,Q1a];rfl
   have J0u:Qck ⟨ro,af,key,val,gone,ttl⟩=(A:Int):=J8e;have J90:Int.tmod (v10:Int) 5=(oN:Int):=by rw [Q1a];exact (Int.ofNat_tmod v10 5).symm
   obtain ⟨s0,hs0⟩: ∃z,z=(Qp OF oN).seq:=⟨_,rfl⟩;obtain ⟨m0,hm0⟩: ∃z,z=(Qp OF oN).m:=⟨_,rfl⟩;obtain ⟨c0,hc0⟩: ∃z,z=(Qp OF oN).c:=⟨_,rfl⟩;have bs:=Qby.seq oN;have bm:=Qby.m oN;have bc:=Qby.c oN;rw [<-hs0] at bs;rw [<-hm0] at bm;rw [<-hc0] at bc;obtain ⟨m1,hm1⟩: ∃z,z=m0+(A:Int):=⟨_,rfl⟩;obtain ⟨c1,hc1⟩: ∃z:Int,z=if (A:Int)=0 then c0+1 else (oN:Int):=⟨_,rfl⟩
   have hNM:Hl OF ⟨ro,af,key,val,gone,ttl⟩=m1:=by unfold Hl;rw [Qnz,J0u,<-hm0,hm1]
   have J52:Hj OF ⟨ro,af,key,val,gone,ttl⟩=c1:=by unfold Hj;rw [Qnz,J0u,<-hc0,hc1]
   obtain ⟨yv,ya,yc,hyv,Qol,hyg⟩: ∃(yv:Qf) (ya:Option Addr) (yc:Nat),yv=Ol ⟨ro,af,key,val,gone,ttl⟩ m1 c1/\Qd.rd ⟨yv,ya,yc⟩ Qe3/\((gone=true/\Qg ⟨yv,ya,yc⟩=[.int .i64 m1, .int .i64 c1, .int .i64 (oN:Int), .slice none 0 0, .bool true, .int .i64 0])\/(gone=false/\Qg ⟨yv,ya,yc⟩=[.int .i64 m1, .int .i64 c1, .int .i64 (oN:Int), .slice va val.length vc, .bool false, .int .i64 ttl])):=by
    cases gone with
    |true=>exact ⟨_,none,0,rfl,⟨by unfold Ol;exact Rd.nil _ _ _,Nat.le_refl _,Nat.zero_le _⟩, .inl ⟨rfl,by unfold Qg Qd.sl Ol;rw [<-Qnz];rfl⟩⟩
    |false=>exact ⟨_,va,vc,rfl,⟨by unfold Ol;exact hxa.rd,by unfold Ol;exact hxa.le,by simp only [maxLen];have:vc<=140737488351232:=hxa.cap;omega⟩, .inr ⟨rfl,by unfold Qg Qd.sl Ol;rw [<-Qnz];rfl⟩⟩
   have hns:Vp OF ⟨ro,af,key,val,gone,ttl⟩=⟨(oN:Int),s0+1,key,yv⟩:=by unfold Vp;rw [hNM,J52,<-hyv,Qnz,<-hs0]
   have hyo:yv.m=m1/\yv.c=c1/\yv.o=(oN:Int):=by rw [hyv,<-Qnz];exact Q5m _ _ _
   obtain ⟨vl,hvl⟩: ∃k,k=val.length:=⟨_,rfl⟩;rw [<-hvl] at hyg;have R1:=zz (show wr.rangeAt g (off+j*6) [.int .i64 ro, .int .i64 af, .string key, .slice va vl vc, .bool gone, .int .i64 ttl] from by rw [hvl];exact hgr wr hkr);have hg3:=hkr.lt hgl;obtain ⟨w5,hw5⟩: ∃W,W=wr.alloc (.cells #[.int .i64 ro, .int .i64 af, .string key, .slice va vl vc, .bool gone, .int .i64 ttl] 113):=⟨_,rfl⟩;have k5:Kp No wr w5:=by rw [hw5];exact zK.alloc _
   have b5:w5.heap[wr.heap.size]?=some (.cells #[.int .i64 ro, .int .i64 af, .string key, .slice va vl vc, .bool gone, .int .i64 ttl] 113 (0,0)):=by rw [hw5];exact heap_alloc_new wr _
   obtain ⟨p,hp⟩: ∃p,p=wr.heap.size:=⟨_,rfl⟩;rw [<-hp] at b5;have J4j:=k5.get hdn λx=>x;have J7r:w5.cell? ⟨p,0,none⟩=some (.int .i64 ro):=Q0 b5 0;have Qlb:=Q3 b5;have Q0d:=zz hw5;have H5:=zz (And.intro (hkr.trans_same k5) (And.intro b5 J4j));have HP:=zz hp;have Q0c:=zz (show w.heap.size<=p from by rw [hp];exact hkr.size);have HV:=zz (And.intro hsn (And.intro hns (And.intro hyo Qol)));have Qzp:=zz hyg;have Qt8:=zz (And.intro Qby (And.intro hs0 (And.intro hm0 (And.intro hc0 (And.intro Qnz Qg1)))));have Lj:=zz hc1;have Qxt:=zz hm1;have Jab:s0<=2000000000000:=by omega
   have Ja9:m0<=300000000000000:=by omega
   have bc1:c0<=70000:=by omega
   have Jac:=bs.1;have Jaa:=bm.1;have bc2:=bc.1;clear hgr hxa hst Qby Qg1 hsn hdn hx Q1a Qnz J0u hs0 hm0 hc0 bs bm bc hm1 hc1 hNM J52 hyv Qol hyg hns hyo hvl hw5 k5 b5 hp J4j hkr hgl He J22
   go_upto_region 7 with (first
    |(refine Qe rfl 113 _ rfl g (off+j*6) rfl _ _ R1 Tryz.underlying113 rfl (by kernel_rfl) ?_)
    |(refine Qy rfl 113 _ _ rfl wr.heap.size (by rfl) _ _ _ rfl rfl (by kernel_rfl) (by rfl) (by rfl) ?_))
   rw [<-Q0d.out,<-HP.out];go_upto_region 8 with fail
   have g3:=Uc OF C7;rw [<-Qt8.out.2.1,<-Qt8.out.2.2.1,<-Qt8.out.2.2.2.1] at g3
   have fm: ∀W,Kp No w5 W->W.cell? ⟨q,oN*3+1,none⟩=some (.int .i64 m0):=λW hW=>by
    rw [Q0 (hW.get H5.out.2.2 λx=>x)];simpa using g3.2.1
   have fc: ∀W,Kp No w5 W->W.cell? ⟨q,oN*3+2,none⟩=some (.int .i64 c0):=λW hW=>by
    rw [Q0 (hW.get H5.out.2.2 λx=>x)];simpa using g3.2.2
   have fa: ∀W,Kp No w5 W->W.cell? ⟨p,1,none⟩=some (.int .i64 af):=λW hW=>Q0 (hW.get H5.out.2.1 λx=>x) 1;have hii:((oN:Nat):Int)<5:=Int.ofNat_lt.2 C7;have hq5:=Q3 H5.out.2.2;have G3:=zz g3;clear g3 J7r;refine zD No [0,0,0,0,0,0,0,0,0,0,0,0,0,0,0,2,2] [0,1,2,3,4,5,6,7,8,9,10,11,12,13,14,15,16] ?_;repeat (first|refine zA ?_|refine zB ?_|refine zC ?_)
   refine Q4 rfl rfl (λn1=>?_);go_wp2_with fail
   obtain ⟨sb,hsb⟩: ∃b,b=w5.heap.size:=⟨_,rfl⟩;obtain ⟨w6,hw6⟩: ∃W,W=(w5.drewN n1).alloc (.cells #[.int .i64 0, .int .i64 0] 25):=⟨_,rfl⟩;have k6:Kp No w5 w6:=by rw [hw6];exact ((Kp.refl No w5).drewN n1).alloc _
   have b6:w6.heap[sb]?=some (.cells #[.int .i64 0, .int .i64 0] 25 (0,0)):=by
    rw [hw6,hsb];exact heap_alloc_new (w5.drewN n1) _
   rw [<-hw6,<-hsb];refine ⟨k6,?_⟩;have Qtx:=zz hsb;have H6:=zz (And.intro k6 b6);clear hw6 hsb k6 b6;repeat (first|refine zA ?_|refine zB ?_|refine zC ?_)
   refine Q4 rfl rfl (λn2=>?_);obtain ⟨w7,hw7⟩: ∃W,W=w6.drewN n2:=⟨_,rfl⟩;have k7:Kp No w6 w7:=by rw [hw7];exact (Kp.refl No w6).drewN n2
   have b7:=k7.get H6.out.2 λx=>x;have y0:w7.cell? ⟨sb,0,none⟩=some (.int .i64 0):=Q0 b7 0;have y1:w7.cell? ⟨sb,1,none⟩=some (.int .i64 0):=Q0 b7 1;have f0:=Qc b7 0;have f1:=Qc b7 1;have l7:=Q3 b7;have H7:=zz (And.intro (H6.out.1.trans_same k7) b7);rw [<-hw7];clear hw7 k7 b7;go_wp2_with fail
   obtain ⟨w8,hw8⟩: ∃W,W=(w7.setCell ⟨sb,0,none⟩ (.int .i64 (m0+(A:Int)))).setCell ⟨sb,1,none⟩ (.int .i64 c0):=⟨_,rfl⟩
   have k8:Kp No w5 w8:=by
    rw [hw8];exact (H7.out.1.setCell (p:=⟨sb,0,none⟩) (.inr (Nat.le_of_eq Qtx.out.symm)) _).setCell (p:=⟨sb,1,none⟩) (.inr (Nat.le_of_eq Qtx.out.symm)) _
   have b8:w8.heap[sb]?=some (.cells #[.int .i64 m1, .int .i64 c0] 25 (0,0)):=by
    rw [hw8,Qh (Qh H7.out.2 0 _) 1 _,Qxt.out];rfl
   rw [<-hw8];refine ⟨k8,?_⟩;have H8:=zz (And.intro k8 b8);clear hw8 k8 b8 y0 y1 f0 f1 l7 fm fc fa;refine Q6 (λnq=>?_);obtain ⟨w9,Ll⟩: ∃W,W=w8.drewN nq:=⟨_,rfl⟩;have k9:Kp No w5 w9:=by rw [Ll];exact H8.out.1.drewN nq
   have b9:w9.heap[sb]?=some (.cells #[.int .i64 m1, .int .i64 c0] 25 (0,0)):=by rw [Ll];exact H8.out.2
   have p9:=k9.get H5.out.2.1 λx=>x;have c91:w9.cell? ⟨p,1,none⟩=some (.int .i64 af):=Q0 p9 1;have J9r:w9.cell? ⟨sb,1,none⟩=some (.int .i64 c0):=Q0 b9 1;have J9s:=Qc b9 1;have sl9:=Q3 b9;have J9k:=Q3 p9;have H9:=zz (And.intro k9 b9);rw [<-Ll];clear Ll k9 b9 p9;go_upto_if 48 with fail
   go_cut [10] from 22 to 89 (λs10 wx=>s10= .pointer (some ⟨sb,0,none⟩)/\Hid (Kp (Mer.One sb) w9 wx/\wx.heap[sb]?=some (.cells #[.int .i64 m1, .int .i64 c1] 25 (0,0))))
   case first=>
    by_cases hz:(A:Int)=0
    ·have Qs6:=zz (show c1=c0+1 by rw [Lj.out,if_pos hz]);have hz1:((A:Int)==0)=true:=by rw [beq_iff_eq];exact hz
     have hz2:(A==0)=true:=by rw [beq_iff_eq];omega
     clear hz;go_wp2_with fail
     go_meet
     case rel=>
      refine ⟨rfl,zz ⟨(Kp.refl (Mer.One sb) w9).setCell (p:=⟨sb,1,none⟩) (.inl (show Mer.One sb sb from rfl)) _,?_⟩⟩;rw [Qh H9.out.2 1 _,Qs6.out];rfl
    ·have Qs6:=zz (show c1=(oN:Int) by rw [Lj.out,if_neg hz]);have hz1:((A:Int)==0)=false:=by rw [beq_eq_false_iff_ne];exact hz
     have hz2:(A==0)=false:=by rw [beq_eq_false_iff_ne];omega
     have hz3: ¬A=0:=by omega
     go_wp2_with fail
     go_meet
     case rel=>
      refine ⟨rfl,zz ⟨(Kp.refl (Mer.One sb) w9).setCell (p:=⟨sb,1,none⟩) (.inl (show Mer.One sb sb from rfl)) _,?_⟩⟩;rw [Qh H9.out.2 1 _,Qs6.out];rfl
   case rest=>
   obtain ⟨rfl,Qu2⟩:=hcut;rename World=>w10
   have k10:Kp No w5 w10:=H9.out.1.trans Qu2.out.1 λi hi e=>by
    have h1:=Qtx.out;have e:i=sb:=e;omega
   have Qwp:q≠sb:=by have:=Qtx.out;omega
   have Qwk:p≠sb:=by have:=Qtx.out;omega
   have b10:=Qu2.out.2;have q10:=k10.get H5.out.2.2 λx=>x;have p10:=k10.get H5.out.2.1 λx=>x;have Qs5:=zz (And.intro k10 (And.intro b10 (And.intro q10 p10)));obtain ⟨s1,hs1⟩: ∃z,z=s0+1:=⟨_,rfl⟩;have g10:w10.cell? ⟨q,oN*3,none⟩=some (.int .i64 s0):=by rw [Q0 q10];simpa using G3.out.1
   have J0c:=Qc q10 (oN*3);have J2r:=Q3 q10;have Cm:=zz hs1;have Qef:=zz (And.intro Qwp Qwk);clear k10 b10 q10 p10 Qwp Qwk c91 J9r J9s sl9 J9k hs1;go_upto_region 13 with fail
   obtain ⟨Le,Nj⟩: ∃W,W=w10.setCell ⟨q,oN*3,none⟩ (.int .i64 (s0+1)):=⟨_,rfl⟩;have k11:Kp (Mer.One q) w10 Le:=by rw [Nj];exact (Kp.refl (Mer.One q) w10).setCell (p:=⟨q,oN*3,none⟩) (.inl (show Mer.One q q from rfl)) _
   have q11:=Qh Qs5.out.2.2.1 (oN*3) (.int .i64 (s0+1));have b11:=k11.get Qs5.out.2.1 λe=>Qef.out.1 (show sb=q from e).symm;rw [<-Nj] at q11⊢;have z0:Le.cell? ⟨sb,0,none⟩=some (.int .i64 m1):=Q0 b11 0;have z1:Le.cell? ⟨sb,1,none⟩=some (.int .i64 c1):=Q0 b11 1;have zl:=Q3 b11
   have g11:Le.cell? ⟨q,oN*3+1,none⟩=some (.int .i64 m0):=by
    rw [Q0 q11];have:=G3.out.2.1;simpa [List.getElem?_set] using this
   have g12:Le.cell? ⟨q,oN*3+2,none⟩=some (.int .i64 c0):=by
    rw [Q0 q11];have:=G3.out.2.2;simpa [List.getElem?_set] using this
   have f11:=Qc q11 (oN*3+1);have f12:=Qc q11 (oN*3+2);have J2s:=Q3 q11;have J36:=zz (And.intro k11 (And.intro q11 b11));clear Nj k11 q11 b11 g10 J0c J2r;go_upto_region 14 with fail
   obtain ⟨w12,Q2n⟩: ∃W,W=(Le.setCell ⟨q,oN*3+1,none⟩ (.int .i64 m1)).setCell ⟨q,oN*3+2,none⟩ (.int .i64 c1):=⟨_,rfl⟩
   have k12:Kp (Mer.One q) w10 w12:=by
    rw [Q2n];exact (J36.out.1.setCell (p:=⟨q,oN*3+1,none⟩) (.inl (show Mer.One q q from rfl)) _).setCell (p:=⟨q,oN*3+2,none⟩) (.inl (show Mer.One q q from rfl)) _
   have q12:=Qh (Qh J36.out.2.1 (oN*3+1) (.int .i64 m1)) (oN*3+2) (.int .i64 c1);rw [<-Q2n] at q12⊢
   have hdone:w12.heap[q]?=some (.cells (Nn (OF.set oN ⟨s1,m1,c1⟩)).toArray 62 (0,0)):=by
    rw [q12,<-Q2z OF Qt8.out.1.five C7 ⟨s1,m1,c1⟩,Cm.out];simp
   have Qts:=zz k12;have b12:=k12.get Qs5.out.2.1 λe=>Qef.out.1 (show sb=q from e).symm;have hpq:p≠q:=Q7 H5.out.2.1 H5.out.2.2 (by decide);have p12:=k12.get Qs5.out.2.2.2 λe=>hpq (show p=q from e);have x0:w12.cell? ⟨sb,0,none⟩=some (.int .i64 m1):=Q0 b12 0;have x1:w12.cell? ⟨sb,1,none⟩=some (.int .i64 c1):=Q0 b12 1;have xl:=Q3 b12;have x3:w12.cell? ⟨p,3,none⟩=some (.slice va vl vc):=Q0 p12 3;have x4:w12.cell? ⟨p,4,none⟩=some (.bool gone):=Q0 p12 4;have x5:w12.cell? ⟨p,5,none⟩=some (.int .i64 ttl):=Q0 p12 5;have xp:=Q3 p12
   have Qnd:=zz (And.intro ((H5.out.1.trans_same Qs5.out.1).trans k12 λi hi e=>by
    have h1:=HQ.out;have e:i=q:=e;omega) (And.intro hdone (And.intro b12 p12)))
   obtain ⟨Qd8,Qlj⟩: ∃W,W=w12.alloc (.cells #[.int .i64 m1, .int .i64 c1, .int .i64 (oN:Int), .slice va vl vc, .bool false, .int .i64 ttl] 44):=⟨_,rfl⟩;obtain ⟨vb,hvb⟩: ∃b,b=w12.heap.size:=⟨_,rfl⟩;have k13:Kp No w12 Qd8:=by rw [Qlj];exact zK.alloc _
   have b13:Qd8.heap[vb]?=some (.cells #[.int .i64 m1, .int .i64 c1, .int .i64 (oN:Int), .slice va vl vc, .bool false, .int .i64 ttl] 44 (0,0)):=by rw [Qlj,hvb];exact heap_alloc_new w12 _
   have Qzm:=zz Qlj;have Qu1:=zz hvb;have Q3f:=zz (And.intro k13 b13);clear Q2n k12 q12 hdone b12 p12 hpq g11 g12 f11 f12 J2s z0 z1 zl Qlj hvb k13 b13;go_upto_region 15 with (refine Qy rfl 44 _ _ rfl w12.heap.size (by rfl) _ _ _ rfl rfl (by kernel_rfl) (by rfl) (by rfl) ?_)
   rw [<-Qzm.out,<-Qu1.out];clear x0 x1 xl x3 x4 x5 xp;have p13:=Q3f.out.1.get Qnd.out.2.2.2 λx=>x;have s13:=Q3f.out.1.get Qnd.out.2.2.1 λx=>x;have x4:Qd8.cell? ⟨p,4,none⟩=some (.bool gone):=Q0 p13 4;have xp:=Q3 p13;have x0:Qd8.cell? ⟨sb,0,none⟩=some (.int .i64 m1):=Q0 s13 0;have x1:Qd8.cell? ⟨sb,1,none⟩=some (.int .i64 c1):=Q0 s13 1;have xl:=Q3 s13;clear p13 s13;go_upto_if 74 with fail
   go_cut [11] from 22 to 89 (λs11 wx=>s11= .pointer (some ⟨vb,0,none⟩)/\Hid (Kp (Mer.One vb) Qd8 wx/\wx.heap[vb]?=some (.cells (Qg ⟨yv,ya,yc⟩).toArray 44 (0,0))))
   case first=>
    rcases Qzp.out with ⟨hg,hv⟩|⟨hg,hv⟩
    ·have HVV:=zz hv;subst hg;have u0:Qd8.cell? ⟨vb,0,none⟩=some (.int .i64 m1):=Q0 Q3f.out.2 0;have u1:Qd8.cell? ⟨vb,1,none⟩=some (.int .i64 c1):=Q0 Q3f.out.2 1;have u2:Qd8.cell? ⟨vb,2,none⟩=some (.int .i64 (oN:Int)):=Q0 Q3f.out.2 2;have u3:Qd8.cell? ⟨vb,3,none⟩=some (.slice va vl vc):=Q0 Q3f.out.2 3;have u4:Qd8.cell? ⟨vb,4,none⟩=some (.bool false):=Q0 Q3f.out.2 4;have u5:Qd8.cell? ⟨vb,5,none⟩=some (.int .i64 ttl):=Q0 Q3f.out.2 5;have v0:=Qc Q3f.out.2 0;have v1:=Qc Q3f.out.2 1;have v2:=Qc Q3f.out.2 2;have v3:=Qc Q3f.out.2 3;have v4:=Qc Q3f.out.2 4;have v5:=Qc Q3f.out.2 5;have J9w:=Q3 Q3f.out.2;clear hv;go_wp2_with fail
     go_meet
     case rel=>
      refine ⟨rfl,zz ⟨?_,?_⟩⟩
      ·exact ((((((Kp.refl (Mer.One vb) Qd8).setCell (p:=⟨vb,0,none⟩) (.inl (show Mer.One vb vb from rfl)) _).setCell (p:=⟨vb,1,none⟩) (.inl (show Mer.One vb vb from rfl)) _).setCell (p:=⟨vb,2,none⟩) (.inl (show Mer.One vb vb from rfl)) _).setCell (p:=⟨vb,3,none⟩) (.inl (show Mer.One vb vb from rfl)) _).setCell (p:=⟨vb,4,none⟩) (.inl (show Mer.One vb vb from rfl)) _).setCell (p:=⟨vb,5,none⟩) (.inl (show Mer.One vb vb from rfl)) _
      ·rw [Qh (Qh (Qh (Qh (Qh (Qh Q3f.out.2 0 _) 1 _) 2 _) 3 _) 4 _) 5 _,HVV.out];rfl
    ·have HVV:=zz hv;subst hg;clear hv;go_wp2_with fail
     go_meet
     case rel=>exact ⟨rfl,zz ⟨Kp.refl _ _,by rw [HVV.out];exact Q3f.out.2⟩⟩
   case rest=>
   obtain ⟨rfl,Qu3⟩:=hcut;rename World=>Fe
   have hvq:vb≠q:=by
    have h1:=Qu1.out;have h2:=Q3 Qnd.out.2.1;omega
   have hvp:vb≠p:=by
    have h1:=Qu1.out;have h2:=Q3 Qnd.out.2.2.2;omega
   have k14:Kp (Mer.One vb) w12 Fe:=(Kp.of_no Q3f.out.1).trans_same Qu3.out.1
   have Qrk:Kp No w Fe:=Qnd.out.1.trans k14 λi hi e=>by
    have h1:=Qu1.out;have h2:=Qnd.out.1.size;have e:i=vb:=e;omega
   have Qxd:=k14.get Qnd.out.2.1 λe=>hvq (show q=vb from e).symm;have Qrn:=k14.get Qnd.out.2.2.2 λe=>hvp (show p=vb from e).symm;have b14:=Qu3.out.2;have J5k:wr.heap[q]?=some (.cells (Nn (G8 st.of ((L.take j).map RowR.r))).toArray 62 (0,0)):=HI.out.done
   have J60:Kp (λi=>i=q\/wr.heap.size<=i) wr Fe:=by
    have a1:Kp (λi=>i=q\/wr.heap.size<=i) wr w5:=by rw [Q0d.out];exact zK.alloc _
    have a2:=a1.trans_same (Kp.of_no Qs5.out.1);refine (a2.trans (T:=Mer.One q) (Qts.out) λi hi e=> .inl e).trans k14 λi hi e=>?_;have e:i=vb:=e;have h1:=Qu1.out;have h2:=a2.size;exact .inr (by have:=Qts.out.size;omega)
   have Q8f:Own Fe 46 9 (.slice ra j c) j (R.flatMap recC):=HI.out.row.2.1.keep J60 λgg hgg hh=>by
    obtain ⟨cur,hcur⟩:=HI.out.row.2.1.type gg hgg;rcases hh with hh|hh
    ·exact Q7 hcur J5k (by decide) hh
    ·have:=Q3 hcur;omega
   have Qgx:Qq 46 9 recC w Fe (.slice ra j c) j R:=⟨HI.out.row.1,Q8f,HI.out.row.2.2.1,Qrk⟩
   have hnt: ∀gg,(Value.slice ra j c).ownBlock=some gg->gg≠q/\gg≠p/\gg≠vb:=λgg hgg=>by
    obtain ⟨cur,hcur⟩:=Q8f.type gg hgg;exact ⟨Q7 hcur Qxd (by decide),Q7 hcur Qrn (by decide),Q7 hcur b14 (by decide)⟩
   have fq: ∀W,Kp (λk=>(Value.slice ra j c).ownBlock=some k) Fe W->W.cell? ⟨q,oN*3,none⟩=some (.int .i64 s1):=λW hW=>by
    rw [Q0 (hW.get Qxd λe=>(hnt q e).1 rfl)];have:=(Uc (OF.set oN ⟨s1,m1,c1⟩) C7).1;rw [Ea (by rw [Qt8.out.1.five];exact C7),if_pos rfl] at this;simpa using this
   have fk: ∀W,Kp (λk=>(Value.slice ra j c).ownBlock=some k) Fe W->W.cell? ⟨p,2,none⟩=some (.string key):=λW hW=>Q0 (hW.get Qrn λe=>(hnt p e).2.1 rfl) 2
   have RV:=zz (show ∀W,Kp (λk=>(Value.slice ra j c).ownBlock=some k) Fe W->W.rangeAt vb 0 [.int .i64 yv.m, .int .i64 yv.c, .int .i64 yv.o, .slice ya yv.val.length yc, .bool yv.gone, .int .i64 yv.ttl] from λW hW=>by
    have:=Qb (hW.get b14 λe=>(hnt vb e).2.2 rfl) 0 6;exact this)
   have Qyo:=zz (And.intro Qgx (And.intro Qxd (And.intro hnt Qrk)));have J8x:=Q3 Qxd;have J8v:=Q3 Qrn;clear hvq hvp k14 Qrk Qxd Qrn b14 J5k J60 Q8f Qgx hnt x0 x1 xl x4 xp hq5 Qlb;go_upto_region 17 with fail
   refine Yq (Kp (λk=>(Value.slice ra j c).ownBlock=some k) Fe) [0,0,0,0,0,0,0,0,0,0,2,2,0] [0,1,2,3,4,5,6,7,8,9,10,11,12] (by kernel_rfl) (by kernel_rfl) (λ_ n h=>h.drewN n) zK ?_;repeat (first|refine zA ?_|refine zB ?_|refine zC ?_)
   apply Q8 rfl rfl rfl
   ·intro W hW;exact Q9 44 _ rfl vb 0 rfl [.int .i64 yv.m, .int .i64 yv.c, .int .i64 yv.o, .slice ya yv.val.length yc, .bool yv.gone, .int .i64 yv.ttl] _ (RV.out W hW) Tryz.underlying44 rfl (by kernel_rfl)
   ·(focus (go_simp;rfl))
   repeat (first|refine zA ?_|refine zB ?_|refine zC ?_)
   refine Q4 rfl rfl (λn3=>?_);go_wp2_with fail
   obtain ⟨nb,hnb⟩: ∃b,b=Fe.heap.size:=⟨_,rfl⟩;obtain ⟨Qau,I5⟩: ∃W,W=(Fe.drewN n3).alloc (.cells #[.int .i64 (oN:Int), .int .i64 s1, .string key, .int .i64 yv.m, .int .i64 yv.c, .int .i64 yv.o, .slice ya yv.val.length yc, .bool yv.gone, .int .i64 yv.ttl] 46):=⟨_,rfl⟩;have k15:Kp No Fe Qau:=by rw [I5];exact ((Kp.refl No Fe).drewN n3).alloc _
   have b15:Qau.heap[nb]?=some (.cells #[.int .i64 (oN:Int), .int .i64 s1, .string key, .int .i64 yv.m, .int .i64 yv.c, .int .i64 yv.o, .slice ya yv.val.length yc, .bool yv.gone, .int .i64 yv.ttl] 46 (0,0)):=by
    rw [I5,hnb];exact heap_alloc_new (Fe.drewN n3) _
   rw [<-I5,<-hnb];refine ⟨Kp.of_no k15,?_⟩;have J37:=zz (And.intro k15 b15);clear I5 hnb k15 b15;repeat (first|refine zA ?_|refine zB ?_|refine zC ?_)
   refine Q4 rfl rfl (λn4=>?_);obtain ⟨w16,hw16⟩: ∃W,W=Qau.drewN n4:=⟨_,rfl⟩;have k16:Kp No Fe w16:=by rw [hw16];exact J37.out.1.drewN n4
   have b16:w16.heap[nb]?=some (.cells #[.int .i64 (oN:Int), .int .i64 s1, .string key, .int .i64 yv.m, .int .i64 yv.c, .int .i64 yv.o, .slice ya yv.val.length yc, .bool yv.gone, .int .i64 yv.ttl] 46 (0,0)):=by rw [hw16];exact J37.out.2
   obtain ⟨a',c',W',hrun,hrel,hkp⟩:=Qq.app (P:=Tryz.prog) (T:=26) Tryz.underlying26 C8 Mv (Qyo.out.1.keep k16) [(⟨⟨(oN:Int),s1,key,yv⟩,ya,yc⟩:Qa)] (Ew (f:=recC) Ad (x:=⟨⟨(oN:Int),s1,key,yv⟩,ya,yc⟩) b16 rfl) rfl (by unfold maxLen;omega) (by omega);have HX:=zz hrun;have Qt1:=zz (And.intro hrel (And.intro k16 hkp));rw [<-hw16];clear hw16 k16 b16 hrun hrel hkp fq fk RV;refine wpList_append_run rfl rfl rfl rfl HX.out (wpList_nil ⟨rfl,?_⟩);refine ⟨(Kp.of_no Qt1.out.2.1).trans_same Qt1.out.2.2,?_⟩;repeat (first|refine zA ?_|refine zB ?_|refine zC ?_)
   refine Q6 (λnq=>?_);obtain ⟨Q3o,I6⟩: ∃W,W=W'.drewN nq:=⟨_,rfl⟩;have k18:Kp No W' Q3o:=by rw [I6];exact (Kp.refl No W').drewN nq
   have J65:=k18.get (Qt1.out.2.2.get (Qt1.out.2.1.get Qyo.out.2.1 λx=>x) λe=>(Qyo.out.2.2.1 q e).1 rfl) λx=>x
   have HI2:=zz (show Qzt Qe3 w q st.of L (j+1) a' c' (R++[(⟨⟨(oN:Int),s1,key,yv⟩,ya,yc⟩:Qa)]) Q3o from by
    obtain ⟨⟨e1,e2⟩,hns,hyo,Qol⟩:=HV.out;rw [hns] at e1 e2;refine ⟨Qt1.out.1.keep k18,?_,λz hz=>?_,?_⟩
    ·rw [J65,e2];unfold Jx;simp only [Int.toNat_natCast];rw [Cm.out,hyo.1,hyo.2.1]
    ·rcases List.mem_append.1 hz with hz|hz
     ·exact HI.out.rd z hz
     ·rw [List.mem_singleton] at hz;rw [hz];exact Qol
    ·rw [List.map_append,HI.out.eq,e1,Cm.out];rfl)
   rw [<-I6];clear I6 k18 J65 HI;go_wp2_with fail
   go_roundw
   case rel=>exact ⟨j+1,c',a',_,hlt,by go_num,rfl,HI2⟩
   case measure=>simp [intOf];omega
  ·obtain rfl:j=n:=by omega
   have HE:=zz (show Qev Qe3 w st.of L (.returned (.slice ra j c)) wr from by
    have hlen:=HI.out.row.1;have heq:=HI.out.eq;rw [HN.out,List.take_length] at heq;have ho:=HI.out.row.2.1;have hnw:=HI.out.row.2.2.1;rw [hlen] at ho hnw⊢;exact ⟨ra,c,R,rfl,ho,heq,HI.out.rd,hnw,HI.out.row.2.2.2⟩)
   clear hge;go_wp2_with fail
   go_ret
   exact HE.out
end Go.Proofs.YtgnkmjeoaoongaaGreatDoor
