/-
  SReads.
-/
import Derived.Test.YtgnkmjeoaoongaaGreatDoorXe7
set_option maxRecDepth 100000
set_option maxHeartbeats 8000000
namespace Go.Proofs.YtgnkmjeoaoongaaGreatDoor
open Go.RowKit Go.Mer
def Xf (R:List Qa) (k:ByteArray) (j:Nat):List Qd:=((R.take j).filter λy=>decide (y.r.key=k)).map Qa.Q72
theorem Q5o {R:List Qa} {k:ByteArray} {j:Nat} (hj:j<R.length):Xf R k (j+1)=if R[j].r.key=k then Xf R k j++[R[j].Q72] else Xf R k j:=by
 unfold Xf;rw [List.take_succ_eq_append_getElem hj,List.filter_append,List.map_append];by_cases h:R[j].r.key=k
 ·rw [if_pos h,List.filter_cons_of_pos (by simpa using h)];rfl
 ·rw [if_neg h,List.filter_cons_of_neg (by simpa using h)];simp
theorem A0 (R:List Qa) (k:ByteArray):(Xf R k R.length).map Qd.v=((R.map Qa.r).filter λr=>decide (r.key=k)).map (·.v):=by
 unfold Xf;rw [List.take_length,List.filter_map,List.map_map,List.map_map];rfl
theorem Np (R:List Qa) (k:ByteArray) (j:Nat):(Xf R k j).length<=R.length:=by
 unfold Xf;rw [List.length_map];have h1:=List.length_filter_le (λy:Qa=>decide (y.r.key=k)) (R.take j);have h2:=List.length_take_le' j R;omega
theorem Q8u (w:World) (Y4:Pow w) (a:Option Addr) (cap:Nat) (L:List RowR) (hL:RowsIn w a L) (hl:L.length<=140737488351232) (t1 t2 m1 m2:Int) (ht:t1<=9223372036854775807):
  Calls Tryz.prog 4 #[.slice a L.length cap,Xo t1 t2,Xo m1 m2] w λe w'=>e= .returned (.bool true)/\Kp No w w':=by
 obtain ⟨n,U2⟩: ∃n,n=L.length:=⟨_,rfl⟩;obtain ⟨wA,hwA⟩: ∃W,W=w.alloc (.cells #[.int .i64 t1, .int .i64 t2] 25):=⟨_,rfl⟩;obtain ⟨wB,hwB⟩: ∃W,W=wA.alloc (.cells #[.int .i64 m1, .int .i64 m2] 25):=⟨_,rfl⟩;obtain ⟨w1,hw1⟩: ∃W,W=wB.alloc (.cells #[.int .i64 0, .int .i64 0, .int .u8 0, .int .i64 0, .int .i64 0, .slice a n cap, .slice none 0 0] 28):=⟨_,rfl⟩;obtain ⟨tb,htb⟩: ∃b,b=w.heap.size:=⟨_,rfl⟩;obtain ⟨mb,hmb⟩: ∃b,b=wA.heap.size:=⟨_,rfl⟩;obtain ⟨b,hb⟩: ∃b,b=wB.heap.size:=⟨_,rfl⟩;have kA:Kp No w wA:=by rw [hwA];exact zK.alloc _
 have kB:Kp No wA wB:=by rw [hwB];exact zK.alloc _
 have k1:Kp No wB w1:=by rw [hw1];exact zK.alloc _
 have bt:wA.heap[tb]?=some (.cells #[.int .i64 t1, .int .i64 t2] 25 (0,0)):=by rw [hwA,htb];exact heap_alloc_new w _
 have bm:wB.heap[mb]?=some (.cells #[.int .i64 m1, .int .i64 m2] 25 (0,0)):=by rw [hwB,hmb];exact heap_alloc_new wA _
 have J2a:=(kA.trans_same kB).trans_same k1;have hmt:tb+1=mb:=by rw [htb,hmb,hwA];simp
 have J73:=zz hmt;have hh:=Q87 w1 b a cap L (by rw [hw1,hb,U2];exact heap_alloc_new wB _) (hL.kp J2a) hl;have HT:=zz (And.intro (k1.get (kB.get bt λx=>x) λx=>x) (k1.get bm λx=>x));have HH:=zz hh;have HW:=zz (And.intro hwA (And.intro hwB (And.intro hw1 (And.intro htb (And.intro hmb hb)))));have U8:=zz J2a;have HN:=zz U2;have HL:=zz hL;have Q0c:=zz Y4;rw [<-U2];simp only [Xo];clear Y4 hL hl hwA hwB hw1 htb hmb hb hmt kA kB k1 bt bm J2a hh U2;go_enter Tryz.func4,Tryz.ntmps4
 go_upto_region 1 with fail
 rw [<-HW.out.1,<-HW.out.2.2.2.1,J73.out];rw [<-HW.out.2.1];go_wp2_with fail
 rw [<-HW.out.2.2.1,<-HW.out.2.2.2.2.2];refine HH.out.mono ?_;rintro e w2 ⟨hb,rfl,himp,k2⟩;have Qz:=zz (U8.out.trans_same k2);have HT2:=zz (And.intro (k2.get HT.out.1 λx=>x) (k2.get HT.out.2 λx=>x));have N8:=zz (show tb<w2.heap.size/\mb<w2.heap.size/\0<w2.heap.size from ⟨Q3 HT2.out.1,Q3 HT2.out.2,Nat.lt_of_lt_of_le Q0c.out.lt Qz.out.size⟩);clear k2 HH HT;cases hb with
 |true=>
  clear himp;have Dn:=zz (Fo w2 (Q0c.out.keep Qz.out));go_wp2_with fail
  refine Dn.out.mono ?_;rintro e wz ⟨rfl,kz⟩;have Qjt:=zz (Qz.out.trans_same kz);clear kz Dn;go_wp2_with fail
  go_ret
  exact ⟨rfl,Qjt.out⟩
 |false=>
  clear himp;rcases Nat.lt_or_ge 64 n with h64|h64
  ·have d1:decide ((64:Int)<(n:Int))=true:=decide_eq_true (by omega);have d1':decide (64<n)=true:=decide_eq_true h64;clear h64;have Dn:=zz (Fo w2 (Q0c.out.keep Qz.out));go_wp2_with fail
   refine Dn.out.mono ?_;rintro e wz ⟨rfl,kz⟩;have Qjt:=zz (Qz.out.trans_same kz);clear kz Dn;go_wp2_with fail
   go_ret
   exact ⟨rfl,Qjt.out⟩
  have d1:decide ((64:Int)<(n:Int))=false:=decide_eq_false (by omega);have d1':decide (64<n)=false:=decide_eq_false (by omega);go_wp2_with fail
  refine (Mz w2 1048576 (Q0c.out.keep Qz.out) (by decide)).mono ?_;rintro e w3 ⟨p,d,s,r,x,H1,H2,rfl,hP⟩;have c1:w3.cell? ⟨p,1,none⟩=some (.pointer (some ⟨s,0,none⟩)):=hP.at_ zK 1;have c3:w3.cell? ⟨p,3,none⟩=some (.pointer (some ⟨x,0,none⟩)):=hP.at_ zK 3;have lp:=Q3 hP.cell;obtain ⟨y,la,lc,cs,ka,kc,K,F,G,J5a,_⟩:=hP.ref;have Zj:=zz (Qz.out.trans_same hP.kp);have hnx:=Qcs J5a.st Qhn a cap L HL.out Zj.out (by have:=HN.out;omega);rw [<-HN.out] at hnx;have J3q:=zz hnx;have HP:=zz hP;have HT3:=zz (And.intro (hP.kp.get HT2.out.1 λx=>x) (hP.kp.get HT2.out.2 λx=>x));clear hP J5a hnx HT2;go_wp2_with fail
  refine J3q.out.mono ?_;intro e w4 hq;unfold Qev at hq;obtain ⟨ra,rc,R,rfl,hown,heq,hrd,hfr,k4⟩:=hq
  have Qa4:R.length=n:=by
   have:=congrArg List.length heq;rw [List.length_map,Mt,List.length_map] at this;rw [this,HN.out]
  rw [Qa4] at hown hfr⊢;obtain ⟨rl,hrl⟩: ∃rl,rl=R.map Qa.r:=⟨_,rfl⟩;have hw2:w.heap.size<=w2.heap.size:=Qz.out.size
  have M8:=zz (show O6 w w2 p d s r x X0 ⟨1048576,none,[]⟩ st0 X0 ⟨1048576,none,[]⟩ st0 0 ra n rc R w4 from
   ⟨⟨H1,H2,HP.out.no k4,λg hg=>⟨λhh=>by have:=HP.out.prog.lt g hh;have:=hfr g hg;omega,λhh=>by have:=HP.out.ref.lt g hh;have:=hfr g hg;omega⟩⟩,hown,Qa4,λg hg=>⟨by have:=hfr g hg;have:=HP.out.kp.size;omega,λe=>by have:=hfr g hg;have:=Q3 HP.out.cell;omega⟩,hrd,Zj.out.trans_same k4⟩)
  have HT4:=zz (And.intro (k4.get HT3.out.1 λx=>x) (k4.get HT3.out.2 λx=>x));clear hown heq hrd hfr k4 c1 c3 lp J3q HP HT3;have hcs:=M8.out.cells;have hlp:=hcs.2.2;obtain ⟨q1,hq1⟩: ∃q,q=Jd Lm 0 ⟨1048576,none,[]⟩ X0 st0 rl:=⟨_,rfl⟩;have hA: ∀q,O6 w w2 p d s r x X0 ⟨1048576,none,[]⟩ st0 X0 ⟨1048576,none,[]⟩ st0 0 ra n rc R (w4.drewN q):=λq=>M8.out.no ((Kp.refl No w4).drewN q)
  have hput: ∀q,Calls Tryz.prog 18 #[.pointer (some ⟨s,0,none⟩), .slice ra n rc] (w4.drewN q) λe w'=>e= .returned (.int .i64 q1.1)/\O6 w w2 p d s r x q1.2.2.1 q1.2.1 q1.2.2.2 X0 ⟨1048576,none,[]⟩ st0 64 ra n rc R w'/\Kp (Gx w2 p) (w4.drewN q) w':=λq=>
   (hA q).put (k:=0) Qz.out.size Q0c.out N8.out.2.2 (Da (by decide)) (Bi _ _ (by decide)) (by decide) (by show (Zp Lm 0).size<=50;rw [U4];decide) (by omega) (by decide) (by rw [hq1,hrl])
  have HA:=zz hput;have Qja:=zz (And.intro hq1 hrl);have a1: ∀W,Kp (Gx w2 p) w4 W->W.cell? ⟨p,1,none⟩=some (.pointer (some ⟨s,0,none⟩)):=λW hW=>(hW.cell (p:=⟨p,1,none⟩) hlp λe=>e.2 rfl).trans hcs.1;have a3: ∀W,Kp (Gx w2 p) w4 W->W.cell? ⟨p,3,none⟩=some (.pointer (some ⟨x,0,none⟩)):=λW hW=>(hW.cell (p:=⟨p,3,none⟩) hlp λe=>e.2 rfl).trans hcs.2.1;clear hA hput hq1 hrl hcs;go_upto_region 7 with fail
  refine zD (Gx w2 p) [0,0,0,0,0,2,0,0,0,0,0,2,0] [0,1,2,3,4,6,7,8,9,10,5,11,12] ?_;repeat (first|refine zA ?_|refine zB ?_|refine zC ?_)
  refine Q4 rfl rfl (λn1=>?_);go_wp2_with fail
  refine (HA.out n1).mono ?_;rintro e w5 ⟨rfl,J53,hk5⟩;have hS5:Kp (Gx w2 p) w4 w5:=hk5.of_drewN;have J3u:=zz J53;clear J53 hk5 HA;go_wp2_with fail
  (try refine ⟨hS5,?_⟩)
  refine Q4 rfl rfl (λn2=>?_);obtain ⟨J9x,Qrf⟩: ∃W,W=World.drewN w5 n2:=⟨_,rfl⟩;have J2g:Kp No w5 J9x:=by rw [Qrf];exact (Kp.refl No w5).drewN n2
  have J49:=zz ((J3u.out.no J2g).Qs4 (k:=0) Qz.out.size (Da (by decide)) (Bi _ _ (by decide)) (by decide) (by show (Zp Lm 0).size<=50;rw [U4];decide) (by omega) (by decide) (by decide) (show q1=_ by rw [Qja.out.1,Qja.out.2]));have J3z:=zz (hS5.trans_no J2g);rw [<-Qrf];clear Qrf J2g;go_wp2_with fail
  refine J49.out.mono ?_;rintro e w6 ⟨rfl,J54,hk6⟩;have hS6:Kp (Gx w2 p) w4 w6:=J3z.out.trans_same hk6;have J3v:=zz J54;clear J54 hk6 J49;go_wp2_with fail
  (try refine ⟨hS6,?_⟩)
  repeat (first|refine zA ?_|refine zB ?_|refine zC ?_)
  refine Q6 (λnq=>?_);obtain ⟨w7,hw7⟩: ∃W,W=w6.drewN nq:=⟨_,rfl⟩;have Qse:=zz (show O6 w w2 p d s r x q1.2.2.1 q1.2.1 q1.2.2.2 q1.2.2.1 q1.2.1 q1.2.2.2 128 ra n rc R w7 from by rw [hw7];exact J3v.out.no ((Kp.refl No w6).drewN nq))
  have J42:=zz (show (w7.heap[tb]?=some (.cells #[.int .i64 t1, .int .i64 t2] 25 (0,0))/\w7.heap[mb]?=some (.cells #[.int .i64 m1, .int .i64 m2] 25 (0,0))) from by
   have h7:Kp (Gx w2 p) w4 w7:=by rw [hw7];exact hS6.drewN nq
   exact ⟨h7.get HT4.out.1 λhh=>by have:=N8.out.1;have:=hh.1;omega,h7.get HT4.out.2 λhh=>by have:=N8.out.2.1;have:=hh.1;omega⟩)
  rw [<-hw7];clear hw7 hS6 hS5 J3z J3v J3u M8 a1 a3 hlp HT4;obtain ⟨st1,hst1⟩: ∃z,z=q1.2.2.1:=⟨_,rfl⟩;obtain ⟨ds1,Qqi⟩: ∃z,z=q1.2.1:=⟨_,rfl⟩;obtain ⟨J61,Qqu⟩: ∃z,z=q1.2.2.2:=⟨_,rfl⟩;rw [<-hst1,<-Qqi,<-Qqu] at Qse
  have HQ:=zz (show st1=(Jd Lm 0 ⟨1048576,none,[]⟩ X0 st0 rl).2.2.1/\rl=R.map Qa.r/\Inv 0 st1/\Mb 1 Lm ds1 st1 J61/\st1.Xu=0/\st1.keys.length<=64/\Zy st1<=64 from by
   have h1:=Qm4 (P:=Lm) (o:=0) (s:=⟨1048576,none,[]⟩) (st:=X0) (lg:=st0) List.Pairwise.nil rl;have h2:rl.length=n:=by rw [Qja.out.2,List.length_map,Qse.out.Uz]
   rw [hst1,Qqi,Qqu,Qja.out.1];refine ⟨rfl,Qja.out.2,Qm3 (Da (by decide)) _,Qgr (Bi _ _ (by decide)) (by decide) _ _,Q35 _,?_,?_⟩
   ·have h3:X0.keys.length=0:=rfl;omega
   ·have h3:Zy X0=0:=rfl;omega)
  clear hst1 Qqi Qqu Qja;have hcs:=Qse.out.cells;have hlp:=hcs.2.2;have c3:=hcs.2.1;obtain ⟨y,la,lc,cs,ka,kc,K,Qsq,hcl⟩:=Qse.out.ref;have M5:=zz (Q3d Qsq 0 (by decide));obtain ⟨sq,Qjn⟩: ∃z,z=(Qp st1.of 0).seq:=⟨_,rfl⟩;rw [<-Qjn] at M5;have J7b:=zz Qjn;have Ma:=zz (And.intro Qsq hcl);clear Qsq hcl Qjn hcs;go_wp2_with fail
  refine M5.out.mono ?_;rintro e w8 ⟨rfl,k8⟩;have J3w:=zz (Qse.out.no k8);have Q6z:=zz (And.intro (Ma.out.1.Q5 k8) Ma.out.2);have J43:=zz (And.intro (k8.get J42.out.1 λx=>x) (k8.get J42.out.2 λx=>x));clear k8 Qse Ma M5 c3 hlp;obtain ⟨w9,Ll⟩: ∃W,W=w8.alloc (.cells #[.int .i64 (Qp st1.of 0).m, .int .i64 (Qp st1.of 0).c] 25):=⟨_,rfl⟩;have Qe2:Kp No w8 w9:=by rw [Ll];exact zK.alloc _
  have Q9j:=zz (J3w.out.no Qe2);have Q0e:=zz (And.intro (Q6z.out.1.Q5 Qe2) Q6z.out.2);have Qdt:=zz (show (w9.heap[tb]?=some (.cells #[.int .i64 t1, .int .i64 t2] 25 (0,0))/\w9.heap[mb]?=some (.cells #[.int .i64 m1, .int .i64 m2] 25 (0,0))) from ⟨Qe2.get J43.out.1 λx=>x,Qe2.get J43.out.2 λx=>x⟩);go_upto_region 10 with fail
  rw [<-Ll];clear Ll Qe2 J3w Q6z;obtain ⟨kn,hkn⟩: ∃k,k=st1.keys.length:=⟨_,rfl⟩;obtain ⟨bb,hbb⟩: ∃bb,bb=(decide (sq=0)&&decide (kn=0)):=⟨_,rfl⟩;have Dn:=zz hkn;have Hu:=zz hbb;have c3:=Q9j.out.cells.2.1;have J9g:=Q9j.out.cells.2.2
  have c5:w9.cell? ⟨x,5,none⟩=some (.slice la kn lc):=by
   have:=Q0e.out.1.at_ zK 5;rw [hkn,<-Q0e.out.2];exact this
  have J9h:=Q3 Q0e.out.1.cell;clear hkn hbb;go_cut [88] from 76 to 87 (λJ9q wx=>J9q= .bool bb/\wx=w9)
  case first=>
   by_cases q0:sq=0
   ·have q0':(sq==0)=true:=by rw [beq_iff_eq];exact q0
    have J79:=zz q0;clear q0;by_cases q5:kn=0
    ·have J9l:((kn:Int)==0)=true:=by rw [beq_iff_eq];omega
     have J2u:(kn==0)=true:=by rw [beq_iff_eq];exact q5
     have HB2:=zz (show bb=true by rw [Hu.out,J79.out,q5];rfl);clear q5;go_wp2_with fail
     go_meet
     case rel=>exact ⟨by rw [HB2.out],rfl⟩
    ·have J9l:((kn:Int)==0)=false:=by rw [beq_eq_false_iff_ne];omega
     have J2u:(kn==0)=false:=by rw [beq_eq_false_iff_ne];exact q5
     have HB2:=zz (show bb=false by rw [Hu.out,decide_eq_false q5,Bool.and_false]);clear q5;go_wp2_with fail
     go_meet
     case rel=>exact ⟨by rw [HB2.out],rfl⟩
   ·have q0':(sq==0)=false:=by rw [beq_eq_false_iff_ne];exact q0
    have HB2:=zz (show bb=false by rw [Hu.out,decide_eq_false q0];rfl);clear q0;go_wp2_with fail
    go_meet
    case rel=>exact ⟨by rw [HB2.out],rfl⟩
  case rest=>
  obtain ⟨rfl,rfl⟩:=hcut;clear Q0e c3 c5 J9g J9h;have Q0s:=zz Q9j.out.kp;cases bb with
  |true=>
   have Dn:=zz (Fo wc (Q0c.out.keep Q0s.out));go_wp2_with fail
   refine Dn.out.mono ?_;rintro e wz ⟨rfl,kz⟩;have Qjt:=zz (Q0s.out.trans_same kz);clear kz Dn;go_wp2_with fail
   go_ret
   exact ⟨rfl,Qjt.out⟩
  |false=>
   have hgo:Fk X0 rl=0/\st1.keys=(Jf 0 X0 rl).keys:=by
    have hne: ¬((Qp (Jd Lm 0 ⟨1048576,none,[]⟩ X0 st0 rl).2.2.1.of 0).seq=0/\(Jd Lm 0 ⟨1048576,none,[]⟩ X0 st0 rl).2.2.1.keys.length=0):=by
     rw [<-HQ.out.1,<-J7b.out,<-Dn.out];intro h;have:=Hu.out;rw [decide_eq_true h.1,decide_eq_true h.2] at this;cases this
    have:=Qi2 hne;rw [<-HQ.out.1] at this;exact this
   have J3g:=zz hgo;obtain ⟨q2,hq2⟩: ∃q,q=J9 Lm ds1 st1 J61 m1 m2:=⟨_,rfl⟩;have hcs:=Q9j.out.cells;have hlp:=hcs.2.2;have Qg3:st1.Xu=0:=HQ.out.2.2.2.2.1;have HA:=zz (λq=>(Q9j.out.no ((Kp.refl No wc).drewN q)).trim (k:=1) Qz.out.size Q0c.out N8.out.2.2 HQ.out.2.2.1 HQ.out.2.2.2.1 (by decide) (by rw [Qg3,U4];decide) m1 m2 (by decide) (by have:=HQ.out.2.2.2.2.2.2;omega) hq2);have Qsd:=zz hq2;have J6d:=zz Qg3;simp only [Xo] at HA;have a1: ∀W,Kp (Gx w2 p) wc W->W.cell? ⟨p,1,none⟩=some (.pointer (some ⟨s,0,none⟩)):=λW hW=>(hW.cell (p:=⟨p,1,none⟩) hlp λe=>e.2 rfl).trans hcs.1;have RM:=zz (show ∀W,Kp (Gx w2 p) wc W->W.rangeAt mb 0 [.int .i64 m1, .int .i64 m2] from λW hW=>by have:=Qb (hW.get Qdt.out.2 λhh=>by have:=N8.out.2.1;have:=hh.1;omega) 0 2;exact this);clear hgo hq2 hcs Qg3;go_upto_region 12 with fail
   refine zD (Gx w2 p) [0,0,0,0,0,2,0,0,0,0,0] [0,1,2,3,4,5,6,7,8,9,10] ?_;repeat (first|refine zA ?_|refine zB ?_|refine zC ?_)
   (try (apply Q8 rfl rfl rfl;(focus (intro W hW;exact Q9 25 _ rfl mb 0 rfl [.int .i64 m1, .int .i64 m2] _ (RM.out W hW) Tryz.underlying25 rfl (by kernel_rfl)));(focus (go_simp;rfl))))
   repeat (first|refine zA ?_|refine zB ?_|refine zC ?_)
   refine Q4 rfl rfl (λn1=>?_);go_wp2_with fail
   refine (HA.out n1).mono ?_;rintro e wd ⟨rfl,Qdv,hkd⟩;have hSd:Kp (Gx w2 p) wc wd:=hkd.of_drewN;have Qtt:=zz Qdv;clear Qdv hkd HA;go_wp2_with fail
   (try refine ⟨hSd,?_⟩)
   repeat (first|refine zA ?_|refine zB ?_|refine zC ?_)
   refine Q6 (λnq=>?_);obtain ⟨we,hwe⟩: ∃W,W=wd.drewN nq:=⟨_,rfl⟩;have Qoq:Kp No wd we:=by rw [hwe];exact (Kp.refl No wd).drewN nq
   have Qdr:=zz (Qtt.out.no Qoq)
   have Qzk:=zz (show (we.heap[tb]?=some (.cells #[.int .i64 t1, .int .i64 t2] 25 (0,0))/\we.heap[mb]?=some (.cells #[.int .i64 m1, .int .i64 m2] 25 (0,0))) from
    ⟨(hSd.trans_no Qoq).get Qdt.out.1 λhh=>by have:=N8.out.1;have:=hh.1;omega,(hSd.trans_no Qoq).get Qdt.out.2 λhh=>by have:=N8.out.2.1;have:=hh.1;omega⟩)
   rw [<-hwe];clear hwe Qoq hSd a1 RM Qtt Q9j Qdt hlp;have hcs:=Qdr.out.cells;have hlp:=hcs.2.2;have HA:=zz (λq=>(Qdr.out.no ((Kp.refl No we).drewN q)).Qiz (k:=1) Qz.out.size HQ.out.2.2.1 HQ.out.2.2.2.1 (by decide) (by rw [J6d.out,U4];decide) m1 m2 (by decide) (by have:=HQ.out.2.2.2.2.2.1;omega) (by have:=HQ.out.2.2.2.2.2.2;omega) Qsd.out);simp only [Xo] at HA;have a3: ∀W,Kp (Gx w2 p) we W->W.cell? ⟨p,3,none⟩=some (.pointer (some ⟨x,0,none⟩)):=λW hW=>(hW.cell (p:=⟨p,3,none⟩) hlp λe=>e.2 rfl).trans hcs.2.1;have RM:=zz (show ∀W,Kp (Gx w2 p) we W->W.rangeAt mb 0 [.int .i64 m1, .int .i64 m2] from λW hW=>by have:=Qb (hW.get Qzk.out.2 λhh=>by have:=N8.out.2.1;have:=hh.1;omega) 0 2;exact this);clear hcs;go_upto_region 13 with fail
   refine zD (Gx w2 p) [0,0,0,0,0,2,0,0,0,0,0] [0,1,2,3,4,5,6,7,8,9,10] ?_;repeat (first|refine zA ?_|refine zB ?_|refine zC ?_)
   (try (apply Q8 rfl rfl rfl;(focus (intro W hW;exact Q9 25 _ rfl mb 0 rfl [.int .i64 m1, .int .i64 m2] _ (RM.out W hW) Tryz.underlying25 rfl (by kernel_rfl)));(focus (go_simp;rfl))))
   repeat (first|refine zA ?_|refine zB ?_|refine zC ?_)
   refine Q4 rfl rfl (λn1=>?_);go_wp2_with fail
   refine (HA.out n1).mono ?_;rintro e wf ⟨rfl,J55,Qqq⟩;have Qsp:Kp (Gx w2 p) we wf:=Qqq.of_drewN;have Qsf:=zz J55;clear J55 Qqq HA;go_wp2_with fail
   (try refine ⟨Qsp,?_⟩)
   repeat (first|refine zA ?_|refine zB ?_|refine zC ?_)
   refine Q6 (λnq=>?_);obtain ⟨w0,hw0⟩: ∃W,W=wf.drewN nq:=⟨_,rfl⟩;have J2o:Kp No wf w0:=by rw [hw0];exact (Kp.refl No wf).drewN nq
   have HR0:=zz (Qsf.out.no J2o);have HT0:=zz (show w0.heap[tb]?=some (.cells #[.int .i64 t1, .int .i64 t2] 25 (0,0)) from (Qsp.trans_no J2o).get Qzk.out.1 λhh=>by have:=N8.out.1;have:=hh.1;omega);rw [<-hw0];clear hw0 J2o Qsp a3 RM Qsf Qdr Qzk hlp;obtain ⟨Jb2,Qwl⟩: ∃z,z=q2.1.2:=⟨_,rfl⟩;obtain ⟨Jb4,Qwm⟩: ∃z,z=q2.1.1:=⟨_,rfl⟩;rw [<-Qwl,<-Qwm];obtain ⟨st2,hst2⟩: ∃z,z=q2.2.2.1:=⟨_,rfl⟩;obtain ⟨ds2,Qvh⟩: ∃z,z=q2.2.1:=⟨_,rfl⟩;obtain ⟨Qhg,Qw2⟩: ∃z,z=q2.2.2.2:=⟨_,rfl⟩;rw [<-hst2,<-Qvh,<-Qw2] at HR0
   have HS2:=zz (show Inv 0 st2/\ ∀k,Z6 t1 t2 st2.mm st2.mc=false->U1 (Qi st2.keys k) t1 t2=U1 (Qi (Jf 0 X0 rl).keys k) t1 t2 from by
    rw [hst2,Qsd.out,<-J3g.out.2];exact ⟨Qij HQ.out.2.2.1 m1 m2,λk h=>Qii HQ.out.2.2.1.sorted m1 m2 t1 t2 k h⟩)
   clear Qwl Qwm hst2 Qvh Qw2;go_wp2_with fail
   go_loopw [16] (λi wr=> ∃j:Nat,j<=n/\i= .int .i64 (j:Int)/\Hid (Kp No w0 wr)) (λi _=>n-(intOf i).toNat)
   case atStart=>exact ⟨0,Nat.zero_le _,rfl,zz zK⟩
   case round=>
    obtain ⟨j,hj,rfl,HK⟩:=hrel;rcases Nat.lt_or_ge j n with hlt|hge
    ·rename World=>wo;have Qoe:=HR0.out.recs;have Qo5:j<R.length:=by rw [HR0.out.Uz];exact hlt
     obtain ⟨g,off,rfl,hgl,hgj⟩:=Yr Qoe.1 Qo5;obtain ⟨kz,hkz⟩: ∃k,k=R[j].r.key:=⟨_,rfl⟩;have KJ:=zz (show ∀W,Kp No w0 W->W.cell? ⟨g,off+j*9+2,none⟩=some (.string kz) from λW hW=>by rw [hkz];exact hgj W hW 2 _ rfl);have Qj6:=zz hgl;clear Qoe Qo5 hgl hgj hkz;go_wp2_with fail
     go_loopw [17,18] (λo i wk=> ∃(k:Nat) (va:Option Addr) (vn vc:Nat),k<=n/\o= .slice va vn vc/\i= .int .i64 (k:Int)/\Hid (Qq 44 6 Qg wo wk (.slice va vn vc) vn (Xf R kz k))) (λ_ i _=>n-(intOf i).toNat)
     case atStart=>exact ⟨0,none,0,0,Nat.zero_le _,rfl,rfl,zz (Qq.nil _ _ _ _)⟩
     case round=>
      obtain ⟨k,va,vn,vc,hk,rfl,rfl,HO⟩:=hrel;rcases Nat.lt_or_ge k n with hkn|hkn
      ·have hkR:k<R.length:=by rw [HR0.out.Uz];exact hkn
       have hK:=HK.out.trans_same HO.out.2.2.2;obtain ⟨g',off',e',_,hgk⟩:=Yr HR0.out.recs.1 hkR;injection e' with e';injection e' with e1 e2;subst e1;subst e2;have hst:=Q5o (k:=kz) hkR;obtain ⟨y,hy⟩: ∃y,y=R[k]:=⟨_,rfl⟩;rw [<-hy] at hgk hst;have ck: ∀W,Kp No wr W->W.cell? ⟨g,off+k*9+2,none⟩=some (.string y.r.key):=λW hW=>hgk W (hK.trans_same hW) 2 _ rfl;have cj: ∀W,Kp No wr W->W.cell? ⟨g,off+j*9+2,none⟩=some (.string kz):=λW hW=>KJ.out W (hK.trans_same hW)
       have RV:=zz (show ∀W,Kp No wr W->W.rangeAt g (off+k*9+3) [.int .i64 y.r.v.m, .int .i64 y.r.v.c, .int .i64 y.r.v.o,y.sl, .bool y.r.v.gone, .int .i64 y.r.v.ttl] from λW hW i u hu=>by
        have h1:=hgk W (hK.trans_same hW);rw [Nat.add_assoc];match i,hu with
        |0,hu=>exact h1 3 _ hu
        |1,hu=>exact h1 4 _ hu
        |2,hu=>exact h1 5 _ hu
        |3,hu=>exact h1 6 _ hu
        |4,hu=>exact h1 7 _ hu
        |5,hu=>exact h1 8 _ hu)
       have hgw:=hK.lt Qj6.out;have HST:=zz hst;clear hgk hst hy hkR;by_cases hkk:y.r.key=kz
       ·have f2:(y.r.key.toList==kz.toList)=true:=by rw [hkk];exact beq_self_eq_true _
        have HKK:=zz hkk;clear hkk;go_upto_region 23 with fail
        refine zD No [0,0,0,0,0,0,0,0,0,0,0] [0,1,2,3,4,5,6,7,8,9,10] ?_;repeat (first|refine zA ?_|refine zB ?_|refine zC ?_)
        refine Q6 (λnq=>?_);obtain ⟨wd,hwd⟩: ∃W,W=wr.drewN nq:=⟨_,rfl⟩;have kd:Kp No wr wd:=by rw [hwd];exact (Kp.refl No wr).drewN nq
        have J7m:=zz (RV.out wd kd);obtain ⟨vb,hvb⟩: ∃b,b=wd.heap.size:=⟨_,rfl⟩;obtain ⟨wv,hwv⟩: ∃W,W=wd.alloc (.cells #[.int .i64 y.r.v.m, .int .i64 y.r.v.c, .int .i64 y.r.v.o,y.sl, .bool y.r.v.gone, .int .i64 y.r.v.ttl] 44):=⟨_,rfl⟩;have kv:Kp No wd wv:=by rw [hwv];exact zK.alloc _
        have bv:wv.heap[vb]?=some (.cells #[.int .i64 y.r.v.m, .int .i64 y.r.v.c, .int .i64 y.r.v.o,y.sl, .bool y.r.v.gone, .int .i64 y.r.v.ttl] 44 (0,0)):=by rw [hwv,hvb];exact heap_alloc_new wd _
        have hvn:vn<=1000:=by have h1:=HO.out.1;have h2:=Np R kz k;have h3:=HR0.out.Uz;omega
        obtain ⟨Qmx,Qmy,wx,hrun,hrel,_⟩:=Qq.app (P:=Tryz.prog) (T:=68) Tryz.underlying68 Vo Yg (HO.out.keep (kd.trans_same kv)) [y.Q72] (Ew (f:=Qg) J8 (x:=y.Q72) bv rfl) rfl (by unfold maxLen;omega) (by omega);have HX:=zz hrun;have Vf:=zz (show Qq 44 6 Qg wo wx (.slice Qmx (vn+1) Qmy) (vn+1) (Xf R kz (k+1)) from by rw [HST.out,if_pos HKK.out];exact hrel);have J46:=zz (And.intro hwv hvb);have hgd:=kd.lt hgw;rw [<-hwd];clear hwd kd hvb hwv kv bv hvn hrun hrel ck cj hK
        go_wp2_with (first
         |(refine Qe rfl 44 _ rfl g (off+k*9+3) rfl _ _ J7m Tryz.underlying44 rfl (by kernel_rfl) ?_)
         |(at_builtin;rw [<-J46.out.1,<-J46.out.2];refine wpList_append_run rfl rfl rfl rfl HX.out ?_;clear HX))
        go_roundw
        case rel=>exact ⟨k+1,Qmx,vn+1,Qmy,hkn,rfl,by go_num,Vf⟩
        case measure=>simp [intOf];omega
       ·have f2:(y.r.key.toList==kz.toList)=false:=by
         rw [<-beq_toListBytes];exact beq_false_of_ne hkk
        have HKK:=zz hkk;clear hkk;go_upto_region 23 with fail
        refine zD No [0,0,0,0,0,0,0,0,0,0,0] [0,1,2,3,4,5,6,7,8,9,10] ?_;repeat (first|refine zA ?_|refine zB ?_|refine zC ?_)
        refine Q6 (λnq=>?_);have Vf:=zz (show Qq 44 6 Qg wo (wr.drewN nq) (.slice va vn vc) vn (Xf R kz (k+1)) from by rw [HST.out,if_neg HKK.out];exact HO.out.keep ((Kp.refl No wr).drewN nq));clear ck cj hK;go_wp2_with fail
        go_roundw
        case rel=>exact ⟨k+1,va,vn,vc,hkn,rfl,by go_num,Vf⟩
        case measure=>simp [intOf];omega
      ·obtain rfl:n=k:=by omega
       clear hkn;have hK:=HK.out.trans_same HO.out.2.2.2;have hvn:=HO.out.1;have hrl:rl=R.map Qa.r:=HQ.out.2.1
       have Qgt:Uw [] ((Xf R kz n).map Qd.v):=by
        have h1:=Qhx J3g.out.1 (o:=0) (by decide) kz;rw [hrl,<-A0,HR0.out.Uz] at h1;exact h1
       have Qoi: ∀v∈Xf R kz n,v.rd wr:=λv hv=>by
        unfold Xf at hv;obtain ⟨z,hz,rfl⟩:=List.mem_map.1 hv;have J99:=List.mem_of_mem_take (List.mem_filter.1 hz).1;exact Qd.Fg (HR0.out.vals z J99) (HR0.out.kp.trans_same hK)
       have hof:=Qiv wr va vc (Xf R kz n) (Own.rd' HO.out.2.1) Qoi Qgt (by have:=Np R kz n;have:=HR0.out.Uz;omega);rw [<-hvn] at hof;have Qnk:=zz hof;have Qxw:=zz (And.intro Qgt (show (Xf R kz n).length<=64 from by have:=Np R kz n;have:=HR0.out.Uz;omega));have Qs9:=zz hK;clear hK hvn hrl Qgt Qoi hof;go_upto_region 26 with fail
       refine Qnk.out.mono ?_;rintro e wx ⟨c,rfl,hO⟩;have hkx:Kp No w0 wx:=Qs9.out.trans_same hO.kp;have hcs:=HR0.out.cells;have a1: ∀W,Kp No wx W->W.cell? ⟨p,1,none⟩=some (.pointer (some ⟨s,0,none⟩)):=λW hW=>((hkx.trans_same hW).cell (p:=⟨p,1,none⟩) hcs.2.2 λe=>e).trans hcs.1;have ck: ∀W,Kp No wx W->W.cell? ⟨g,off+j*9+2,none⟩=some (.string kz):=λW hW=>KJ.out W (hkx.trans_same hW);have RT:=zz (show ∀W,Kp No wx W->W.rangeAt tb 0 [.int .i64 t1, .int .i64 t2] from λW hW=>by have:=Qb ((hkx.trans_same hW).get HT0.out λx=>x) 0 2;exact this);have hpl:p<wx.heap.size:=hkx.lt hcs.2.2;have htl:tb<wx.heap.size:=hkx.lt (Q3 HT0.out);have hgl:g<wx.heap.size:=hkx.lt Qj6.out
       have hcv:c.vs=((Xf R kz n).map Qd.v).foldl Yd []:=by
        have:=hO.vs;rwa [HO.out.1,List.take_length] at this
       have hgc:Z6 t1 t2 st2.mm st2.mc=false->U1 (Qi st2.keys kz) t1 t2=U1 c.vs t1 t2:=λh=>by
        rw [HS2.out.2 kz h,Qbj,HQ.out.2.1,<-A0,HR0.out.Uz,<-hcv]
       have hgt: ∀W,Kp No w0 W->Calls Tryz.prog 26 #[.pointer (some ⟨s,0,none⟩), .string kz,Xo t1 t2] W λe w'=> ∃v b er,e= .returned (.tuple #[v, .bool b, .int .i64 er])/\Kp No W w'/\Qe5 c.vs st2 t1 t2 w' v b er:=λW hW=>
        ((HR0.out.no hW).get HS2.out.1 (by decide) kz t1 t2 ht).mono λe w' h=>Qpw h hgc
       simp only [Xo] at hgt;have J3h:=zz hgt
       have Q6v:=zz (show Y7 148 wx c/\Li c.vs/\c.R.length<=1000000/\(∀v∈c.vs,Zx v=true) from by
        refine ⟨hO.ok,by rw [hcv];exact Ho _ _ List.Pairwise.nil Qxw.out.1,?_,by rw [hcv];exact Qal _ _ (λv hv=>absurd hv List.not_mem_nil) Qxw.out.1⟩;have h1:=congrArg List.length hcv;rw [Oo,List.length_map] at h1;have h2:c.vs.length=c.R.length:=by unfold Ja.vs;rw [List.length_map]
        have h3:=Qxw.out.2;simp only [List.length_nil] at h1;omega)
       have Xq:=zz hkx;clear hkx hcs hcv hgc hgt hO Qxw Qnk;go_upto_region 26 with fail
       refine zD No [0,0,0,0,0,0,0,0,0,0,2,0,0,0,0,0,0,0] [0,1,2,3,4,5,6,7,8,9,10,11,12,13,14,15,16,17] ?_;repeat (first|refine zA ?_|refine zB ?_|refine zC ?_)
       (try (apply Q8 rfl rfl rfl;(focus (intro W hW;exact Q9 25 _ rfl tb 0 rfl [.int .i64 t1, .int .i64 t2] _ (RT.out W hW) Tryz.underlying25 rfl (by kernel_rfl)));(focus (go_simp;rfl))))
       repeat (first|refine zA ?_|refine zB ?_|refine zC ?_)
       refine Q4 rfl rfl (λn1=>?_);go_wp2_with fail
       refine (J3h.out _ (Xq.out.drewN n1)).mono ?_;rintro e wg ⟨v,b,er,rfl,hkg,Qvo⟩;have hsg:=hkg.of_drewN;have Qt9:=zz Qvo;clear Qvo hkg;go_wp2_with fail
       (try refine ⟨hsg,?_⟩)
       repeat (first|refine zA ?_|refine zB ?_|refine zC ?_)
       refine Q6 (λnq=>?_);obtain ⟨wh,hwh⟩: ∃W,W=wg.drewN nq:=⟨_,rfl⟩;have Qrj:Kp No wg wh:=by rw [hwh];exact (Kp.refl No wg).drewN nq
       have J2p:Kp No wx wh:=hsg.trans_same Qrj;have Qoo:Kp No w0 wh:=Xq.out.trans_same J2p;have HG:=zz (Qt9.out.keep Qrj);rw [<-hwh];have hcs:=HR0.out.cells;have a3: ∀W,Kp No wh W->W.cell? ⟨p,3,none⟩=some (.pointer (some ⟨x,0,none⟩)):=λW hW=>((Qoo.trans_same hW).cell (p:=⟨p,3,none⟩) hcs.2.2 λe=>e).trans hcs.2.1;have hpl2:p<wh.heap.size:=Qoo.lt hcs.2.2;have J93:tb<wh.heap.size:=Qoo.lt (Q3 HT0.out);obtain ⟨yy,la,lc,cs,ka,kc,K,hX0,_⟩:=HR0.out.ref;have Q8k:x<wh.heap.size:=Qoo.lt (Q3 hX0.cell);obtain ⟨mm,hmm⟩: ∃z,z=st2.mm:=⟨_,rfl⟩;obtain ⟨mc,hmc⟩: ∃z,z=st2.mc:=⟨_,rfl⟩
       have J4d:=zz (show ∀W,Kp No wh W->W.rangeAt x 6 [.int .i64 mm, .int .i64 mc] from λW hW=>by
        have:=Qb ((hX0.Q5 (Qoo.trans_same hW)).cell) 6 2;rw [hmm,hmc];exact this)
       have Qzv:=zz (show ∀W,Kp No wh W->W.rangeAt tb 0 [.int .i64 t1, .int .i64 t2] from λW hW=>by have:=Qb ((Qoo.trans_same hW).get HT0.out λx=>x) 0 2;exact this);have hcm:=λW=>Eb t1 t2 mm mc W;obtain ⟨z,hz⟩: ∃z,z=Js t1 t2 mm mc:=⟨_,rfl⟩;rw [<-hz] at hcm;simp only [Xo] at hcm;have HCM:=zz hcm;have Qyr:=zz (Q6v.out.1.Q5 J2p);have J4b:=zz Qoo;clear hwh Qrj J2p Qoo hcs hX0 hcm a1 ck hpl htl hgl J3h RT hsg Qt9;have hG:=HG.out;rcases hG with ⟨hlt0,rfl,rfl⟩|⟨hlt0,rfl,hG⟩
       ·have hzn:z<0:=by rw [hz,(Xi _ _ _ _).2.1,hmm,hmc];exact hlt0
        have dz:decide (z<0)=true:=decide_eq_true hzn;clear hlt0 hz hmm hmc hzn HG;go_upto_region 27 with fail
        refine zD No [0,0,0,0,0,0,0,0,2,0] [0,1,2,3,4,5,6,7,8,9] ?_;repeat (first|refine zA ?_|refine zB ?_|refine zC ?_)
        (try (apply Q8 rfl rfl rfl;(focus (intro W hW;exact Q9 25 _ rfl tb 0 rfl [.int .i64 t1, .int .i64 t2] _ (Qzv.out W hW) Tryz.underlying25 rfl (by kernel_rfl)));(focus (go_simp;rfl))))
        repeat (first|refine zA ?_|refine zB ?_|refine zC ?_)
        (try (apply Q8 rfl rfl rfl;(focus (intro W hW;exact Q9 25 _ rfl x 6 rfl [.int .i64 mm, .int .i64 mc] _ (J4d.out W hW) Tryz.underlying25 rfl (by kernel_rfl)));(focus (go_simp;rfl))))
        repeat (first|refine zA ?_|refine zB ?_|refine zC ?_)
        refine Q4 rfl rfl (λn1=>?_);go_wp2_with fail
        refine (HCM.out _).mono ?_;rintro e wi ⟨rfl,hki⟩;go_wp2_with fail
        (try refine ⟨hki.of_drewN,?_⟩)
        repeat (first|refine zA ?_|refine zB ?_|refine zC ?_)
        refine Q6 (λnq=>?_);obtain ⟨wj,Qh5⟩: ∃W,W=wi.drewN nq:=⟨_,rfl⟩;have Qx4:Kp No wh wj:=by rw [Qh5];exact hki.of_drewN.drewN nq
        rw [<-Qh5];have HJ:=zz Qx4;clear Qh5 Qx4 hki a3;have Qj7:=zz (J4b.out.trans_same HJ.out);go_wp2_with fail
        go_roundw
        case rel=>exact ⟨j+1,hlt,by go_num,Qj7⟩
        case measure=>simp [intOf];omega
       ·have hzn: ¬z<0:=by rw [hz,(Xi _ _ _ _).2.1,hmm,hmc,hlt0];decide
        have dz:decide (z<0)=false:=decide_eq_false hzn;clear hlt0 hz hmm hmc hzn HG;have HG2:=zz hG;clear hG;go_upto_region 27 with fail
        refine zD No [0,0,0,0,0,0,0,0,2,0] [0,1,2,3,4,5,6,7,8,9] ?_;repeat (first|refine zA ?_|refine zB ?_|refine zC ?_)
        (try (apply Q8 rfl rfl rfl;(focus (intro W hW;exact Q9 25 _ rfl tb 0 rfl [.int .i64 t1, .int .i64 t2] _ (Qzv.out W hW) Tryz.underlying25 rfl (by kernel_rfl)));(focus (go_simp;rfl))))
        repeat (first|refine zA ?_|refine zB ?_|refine zC ?_)
        (try (apply Q8 rfl rfl rfl;(focus (intro W hW;exact Q9 25 _ rfl x 6 rfl [.int .i64 mm, .int .i64 mc] _ (J4d.out W hW) Tryz.underlying25 rfl (by kernel_rfl)));(focus (go_simp;rfl))))
        repeat (first|refine zA ?_|refine zB ?_|refine zC ?_)
        refine Q4 rfl rfl (λn1=>?_);go_wp2_with fail
        refine (HCM.out _).mono ?_;rintro e wi ⟨rfl,hki⟩;go_wp2_with fail
        (try refine ⟨hki.of_drewN,?_⟩)
        repeat (first|refine zA ?_|refine zB ?_|refine zC ?_)
        refine Q6 (λnq=>?_);obtain ⟨wj,Qh5⟩: ∃W,W=wi.drewN nq:=⟨_,rfl⟩;have Qx4:Kp No wh wj:=by rw [Qh5];exact hki.of_drewN.drewN nq
        rw [<-Qh5];have HJ:=zz Qx4;clear Qh5 Qx4 hki a3;have Qj7:=zz (J4b.out.trans_same HJ.out);have J3y:=zz (Qzv.out wj HJ.out);have J3d:=zz (Qyr.out.Q5 HJ.out);have hxg:=Qdi wj c t1 t2 ht J3d.out Q6v.out.2.1 Q6v.out.2.2.1 Q6v.out.2.2.2;simp only [Xo] at hxg;have hG2:=HG2.out;clear HG2;rcases hG2 with ⟨hgc,rfl,rfl⟩|⟨u,ga,J0e,hgc,rfl,rfl,hrd⟩
        ·rw [hgc] at hxg;have Qzo:=zz hxg;have Qzj:=zz (λW:World=>Ag none none 0 0 0 0 [] [] W (Rd.nil W 0 none) (Rd.nil W 0 none) (by decide));clear hxg hgc;go_wp2_with (refine Qe rfl 25 _ rfl tb 0 rfl _ _ J3y.out Tryz.underlying25 rfl (by kernel_rfl) ?_)
         refine Qzo.out.mono ?_;rintro e wk ⟨rfl,hkk⟩;have HKK:=zz hkk;clear hkk;go_wp2_with fail
         refine (Qzj.out _).mono ?_;rintro e wl ⟨rfl,nl,rfl⟩;have Qj7:=zz ((Qj7.out.trans_same HKK.out).drewN nl);go_wp2_with fail
         go_roundw
         case rel=>exact ⟨j+1,hlt,by go_num,Qj7⟩
         case measure=>simp [intOf];omega
        ·rw [hgc] at hxg;have Qzo:=zz hxg;have M8:=zz hrd
         have Qrc:u.length<=140737488355328:=by
          have:=Qlm Q6v.out.2.2.2 hgc;omega
         clear hxg hgc hrd;go_wp2_with (refine Qe rfl 25 _ rfl tb 0 rfl _ _ J3y.out Tryz.underlying25 rfl (by kernel_rfl) ?_)
         refine Qzo.out.mono ?_;rintro e wk ⟨y,J5r,rfl,rfl,hkk⟩;obtain ⟨⟨yv,ya,yc⟩,hye⟩: ∃z,z=y:=⟨_,rfl⟩;subst hye;have hsm:=Ag ga ya J0e yc wh.heap.size wk.heap.size yv.val yv.val wk (M8.out.keep (HJ.out.trans_same hkk) λ_ _ x=>x) (Own.rd' ((J3d.out.vals _ J5r).keep hkk λ_ _ x=>x)) Qrc;rw [decide_eq_true rfl] at hsm;have Qzj:=zz hsm;have HKK:=zz hkk;simp only [Qd.sl];clear hkk hsm Qrc J5r;go_wp2_with fail
         refine Qzj.out.mono ?_;rintro e wl ⟨rfl,nl,rfl⟩;have Qj7:=zz ((Qj7.out.trans_same HKK.out).drewN nl);go_wp2_with fail
         go_roundw
         case rel=>exact ⟨j+1,hlt,by go_num,Qj7⟩
         case measure=>simp [intOf];omega
    ·obtain rfl:n=j:=by omega
     have J3k:=zz (HR0.out.kp.trans_same HK.out);clear hge;have Dn:=zz (Fo wr (Q0c.out.keep J3k.out));go_wp2_with fail
     refine Dn.out.mono ?_;rintro e wz ⟨rfl,kz⟩;have Qjt:=zz (J3k.out.trans_same kz);clear kz Dn;go_wp2_with fail
     go_ret
     exact ⟨rfl,Qjt.out⟩
end Go.Proofs.YtgnkmjeoaoongaaGreatDoor
