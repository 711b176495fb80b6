/- store -/
import Derived.Test.YtgnkmjeoaoongaaGreatDoorVd2
set_option maxRecDepth 100000
set_option maxHeartbeats 4000000
open List (length_append mem_cons not_mem_nil flatMap_cons flatMap_nil append_nil)
namespace Go.Proofs.YtgnkmjeoaoongaaGreatDoor
open Go.RowKit Go.Mer
structure ES (wq W:World) (n1 n2:Nat) (key:ByteArray) (g:Option Nat) (a k:Option (Option Addr×Nat)):Prop where
 kp:Kp No wq W
 f4: ∀x,g=some x->W.heap[x]?=some (.cells #[.int .i64 (n1:Int), .int .i64 (n2:Int)] 3 (0,0))
 f5: ∀x,a=some x->Mer.Own W 5 1 (.slice x.1 ([n1,n2].flatMap Qq).length x.2) ([n1,n2].flatMap Qq).length (u8s ([n1,n2].flatMap Qq))/\ ∀b,(Value.slice x.1 ([n1,n2].flatMap Qq).length x.2).ownBlock=some b->wq.heap.size<=b
 f8: ∀x,k=some x->Rd W W.heap.size x.1 (u8s key.data.toList)
section
variable {wq W V:World} {n1 n2:Nat} {key:ByteArray} {g:Option Nat} {a k:Option (Option Addr×Nat)}
theorem ES.start (w:World) (n1 n2:Nat) (key:ByteArray):ES w w n1 n2 key none none none:=⟨Kp.refl _ _,λ_ h=>(by cases h),λ_ h=>(by cases h),λ_ h=>(by cases h)⟩
theorem ES.no (h:ES wq W n1 n2 key g a k) (hk:Kp No W V):ES wq V n1 n2 key g a k:=
 ⟨h.kp.Q0 hk,λx hx=>hk.get (h.f4 x hx) λx=>x,λx hx=>⟨(h.f5 x hx).1.keep hk λ_ _ x=>x,(h.f5 x hx).2⟩,λx hx=>Rd.kp (h.f8 x hx) hk⟩
theorem ES.drawn (h:ES wq W n1 n2 key g a k) {n:Nat}:ES wq (W.drewN n) n1 n2 key g a k:=h.no ⟨rfl,rfl,rfl,Nat.le_refl _,λ_ _ _=>rfl⟩
theorem ES.s4 (h:ES wq W n1 n2 key none a k) {x:Nat} (hV:V=W.alloc (.cells #[.int .i64 (n1:Int), .int .i64 (n2:Int)] 3)) (hx:x=W.heap.size):ES wq V n1 n2 key (some x) a k:=by
 have hk:Kp No W V:=by rw [hV];exact zK.alloc _
 have h1:=h.no hk;refine ⟨h1.kp,λy hy=>?_,h1.f5,h1.f8⟩;injection hy with hy;subst hy;rw [hx,hV];exact heap_alloc_new W _
theorem ES.s5 {e:Ending} (h:ES wq W n1 n2 key g none k) (hO:Qda W ([n1,n2].flatMap Qq) e V): ∃x c,e= .returned (.slice x ([n1,n2].flatMap Qq).length c)/\ES wq V n1 n2 key g (some (x,c)) k:=by
 obtain ⟨x,c,rfl,ho,hf,hk⟩:=hO;have h1:=h.no hk;refine ⟨x,c,rfl,h1.kp,h1.f4,λy hy=>?_,h1.f8⟩;injection hy with hy;subst hy;exact ⟨ho,λb hb=>Nat.le_trans h.kp.size (hf b hb)⟩
theorem ES.s8 (h:ES wq W n1 n2 key g a none) (hk:Kp No W V) {x:Option Addr} {c:Nat} (hr:Rd V V.heap.size x (u8s key.data.toList)):ES wq V n1 n2 key g a (some (x,c)):=by
 have h1:=h.no hk;refine ⟨h1.kp,h1.f4,h1.f5,λy hy=>?_⟩;injection hy with hy;subst hy;exact hr
end
theorem Um {p:List UInt8} (h:p.length<=1000000000):(Jn p).length<=p.length+9:=by
 have:=J4 (n:=p.length) (by omega);unfold Jn;rw [length_append];omega
theorem Qnm (w:World) (x:Qe) (hx:x.rd w) (hr:Z4 x.r=true):Calls Tryz.prog 120 #[Cm x] w (Qa5 w (Vl x.r)):=by
 obtain ⟨w1,hw1⟩: ∃W,W=w.alloc (.cells (recC x).toArray 46):=⟨_,rfl⟩;have k1:Kp No w w1:=by rw [hw1];exact zK.alloc _
 obtain ⟨b,hb⟩: ∃b,b=w.heap.size:=⟨_,rfl⟩;have b1:w1.heap[b]?=some (.cells (recC x).toArray 46 (0,0)):=by rw [hw1,hb];exact heap_alloc_new w _
 have R1:=zz (show w1.rangeAt b 0 (recC x) from by have:=Qg b1 0 9;exact this);have his:=Qer x w1;rw [hr] at his;have HIS:=zz his;have HP:=zz (Q0m.1 hr);have Qag:=zz (show Rd w w.heap.size x.a (u8s x.r.v.val) from hx.1);have Yq:=zz k1;have HB1:=zz b1;have HW1:=zz hw1;have Gd:=zz hb;obtain ⟨r,a,cap⟩:=x;simp only at HP Qag⊢
 have hst:=Zw.1 HP.out.st;obtain ⟨oN,Q3f⟩: ∃n:Nat,r.o=(n:Int):=⟨r.o.toNat,by have:=HP.out.o0;omega⟩;obtain ⟨sN,Jcb⟩: ∃n:Nat,r.seq=(n:Int):=⟨r.seq.toNat,by have:=HP.out.q1;omega⟩;obtain ⟨mN,hmN⟩: ∃n:Nat,r.v.m=(n:Int):=⟨r.v.m.toNat,by omega⟩;obtain ⟨cN,Jc2⟩: ∃n:Nat,r.v.c=(n:Int):=⟨r.v.c.toNat,by omega⟩;obtain ⟨tN,Jcc⟩: ∃n:Nat,r.v.ttl=(n:Int):=⟨r.v.ttl.toNat,by have:=HP.out.t0;omega⟩;have HN:=zz (And.intro Q3f (And.intro Jcb (And.intro hmN (And.intro Jc2 Jcc))));have Am:=zz (show oN<=4/\sN<=1099511627776/\mN<=281474976710655/\cN<=65535/\tN<=281474976710655 from ⟨by have:=HP.out.o5;omega,by have:=HP.out.q2;omega,by omega,by omega,by have:=HP.out.t1;omega⟩)
 have Oq:=zz (show ∀n∈[oN,sN],n<=4611686018427387904 from λn hn=>by
  have:=Am.out;simp only [mem_cons,not_mem_nil,or_false] at hn;rcases hn with rfl|rfl<;>omega)
 have Qyi:=zz (show (Jn r.key.data.toList).length<=73 from by
  have h3:=HP.out.k2;have h4:=Xq r.key;have:=Um (p:=r.key.data.toList) (by omega);omega)
 have Qd3:=zz (show r.key.data.toList.length<=1000000000 from by have h3:=HP.out.k2;have h4:=Xq r.key;omega);obtain ⟨ln,hln⟩: ∃l,l=([oN,sN].flatMap Qq).length:=⟨_,rfl⟩;have Em:=zz hln
 have J3v:=zz (show ln<=18 from by
  have h1:=J4 (n:=oN) (by have:=Am.out;omega);have h2:=J4 (n:=sN) (by have:=Am.out;omega);rw [hln];simp only [flatMap_cons,flatMap_nil,append_nil,length_append];omega)
 unfold Cm recC Qe.sl;unfold recC Qe.sl at HW1;simp only at HW1⊢
 clear k1 b1 hw1 hr his hx hb hst Q3f Jcb hmN Jc2 Jcc hln;rcases Bool.eq_false_or_eq_true r.v.gone with hg|hg
 ·have Q62:=zz (show Ev r.v.gone=1 from by rw [hg];rfl);have HG:=zz hg;clear hg;go_enter Tryz.func120,Tryz.ntmps120
  go_upto_region 1 with fail
  rw [<-HW1.out,<-Gd.out];go_wp2_with (refine Qj rfl 46 _ rfl b 0 rfl _ _ R1 Tryz.underlying46 rfl (by kernel_rfl) ?_)
  refine HIS.out.mono ?_;rintro e w2 ⟨rfl,k2⟩;have HB2:=zz (k2.get HB1.out λx=>x);have J9:=zz (Yq.out.Q0 k2);have Ky:=zz (Rd.kp Qag.out J9.out);have d7:w2.cell? ⟨b,7,none⟩=some (.bool true):=by rw [<-HG.out];exact Q4 HB2.out 7
  have hl2:=Q7 HB2.out;clear k2;go_upto_region 6 with fail
  have HS:=zz (ES.start w2 oN sN r.key);have e0: ∀W,Kp No w2 W->W.cell? ⟨b,0,none⟩=some (.int .i64 (oN:Int)):=λW hW=>(Q4 (hW.get HB2.out λx=>x) 0).trans (by rw [<-HN.out.1];rfl);have e1: ∀W,Kp No w2 W->W.cell? ⟨b,1,none⟩=some (.int .i64 (sN:Int)):=λW hW=>(Q4 (hW.get HB2.out λx=>x) 1).trans (by rw [<-HN.out.2.1];rfl);have e2: ∀W,Kp No w2 W->W.cell? ⟨b,2,none⟩=some (.string r.key):=λW hW=>Q4 (hW.get HB2.out λx=>x) 2;clear d7;refine Ga (Kp No w2) [0,0,0,0,2,2,0,0,2,2,2,0] (.fork [0,1,2,3,6,7] 4 8 (.fork [] 5 8 (.leaf [8,9,10,11]) (.leaf [5,9,10,11])) (.leaf [4,5,9,10,11])) (by kernel_rfl) (by kernel_rfl) (λ_ n h=>h.drewN n) zK ?_;refine V1 ?_;repeat (first|refine zA ?_|refine zB ?_|refine zC ?_)
  refine V0 (λn=>zK.drewN n) (λm0=>?_) (λm0=>?_);refine Q8 rfl rfl (λq=>?_);obtain ⟨we,hwe⟩: ∃W,W=World.drewN (w2.drewN m0) q:=⟨_,rfl⟩;have hS0:=ES.drawn (n:=q) (ES.drawn (n:=m0) HS.out);rw [<-hwe] at hS0⊢;clear HS hwe;go_wp2_with fail
  obtain ⟨w3,hV⟩: ∃V,V=we.alloc (.cells #[.int .i64 (oN:Int), .int .i64 (sN:Int)] 3):=⟨_,rfl⟩;obtain ⟨gb,hgb⟩: ∃e,e=we.heap.size:=⟨_,rfl⟩;have hS1:=hS0.s4 hV hgb;have HS:=zz hS1;rw [<-hV,<-hgb];clear hV hgb hS1 hS0;refine ⟨HS.out.kp,?_⟩;refine Jy (λm1=>?_);refine V1 ?_;refine V0 (λn=>(HS.out.kp.drewN m1).drewN n) (λm2=>?_) (λm2=>?_);refine Q8 rfl rfl (λq=>?_);obtain ⟨we,hwe⟩: ∃W,W=World.drewN ((w3.drewN m1).drewN m2) q:=⟨_,rfl⟩;have hS0:=ES.drawn (n:=q) (ES.drawn (n:=m2) (ES.drawn (n:=m1) HS.out));rw [<-hwe] at hS0⊢;clear HS hwe;have Di:=zz hS0;clear hS0;go_wp2_with fail
  refine (U0 we gb 2 [oN,sN] 3 Oq.out (Di.out.f4 gb rfl) (by simp)).mono ?_;intro e w4 hO;obtain ⟨a5,c5,he,hS1⟩:=Di.out.s5 hO;have he:e= .returned (.slice a5 ln c5):=by rw [Em.out];exact he
  subst he;have HS:=zz hS1;clear hS1 hO Di;go_wp2_with fail
  (try refine ⟨HS.out.kp,?_⟩)
  refine Jy (λm3=>?_);refine Y3 ?_;refine Q8 rfl rfl (λq=>?_);obtain ⟨we,hwe⟩: ∃W,W=World.drewN (w4.drewN m3) q:=⟨_,rfl⟩;have hS0:=ES.drawn (n:=q) (ES.drawn (n:=m3) HS.out);rw [<-hwe] at hS0⊢;clear HS hwe;obtain ⟨kc,w5,hcv,k6,hs6,Q0g,_⟩:=Vx r.key we;have hS1:=hS0.s8 (c:=kc) k6 Q0g;obtain ⟨cb,hcb⟩: ∃e,e=we.heap.size:=⟨_,rfl⟩;rw [<-hcb] at hcv hS1;have Mn:=zz hcv;have HS:=zz hS1;clear hcv k6 hs6 Q0g hcb hS1 hS0;go_wp2_with fail
  rw [Mn.out];simp only [Result.andThen_ok];go_wp2_with fail
  (try refine ⟨HS.out.kp,?_⟩)
  rotate_left;refine Q8 rfl rfl (λq=>?_);obtain ⟨we,hwe⟩: ∃W,W=World.drewN ((w3.drewN m1).drewN m2) q:=⟨_,rfl⟩;have hS0:=ES.drawn (n:=q) (ES.drawn (n:=m2) (ES.drawn (n:=m1) HS.out));rw [<-hwe] at hS0⊢;clear HS hwe;obtain ⟨kc,w4,hcv,k6,hs6,Q0g,_⟩:=Vx r.key we;have hS1:=hS0.s8 (c:=kc) k6 Q0g;obtain ⟨cb,hcb⟩: ∃e,e=we.heap.size:=⟨_,rfl⟩;rw [<-hcb] at hcv hS1;have Mn:=zz hcv;have HS:=zz hS1;clear hcv k6 hs6 Q0g hcb hS1 hS0;go_wp2_with fail
  rw [Mn.out];simp only [Result.andThen_ok];go_wp2_with fail
  (try refine ⟨HS.out.kp,?_⟩)
  refine Jy (λm3=>?_);refine Y3 ?_;refine Q8 rfl rfl (λq=>?_);obtain ⟨we,hwe⟩: ∃W,W=World.drewN (w4.drewN m3) q:=⟨_,rfl⟩;have hS0:=ES.drawn (n:=q) (ES.drawn (n:=m3) HS.out);rw [<-hwe] at hS0⊢;clear HS hwe;have Di:=zz hS0;clear hS0;go_wp2_with fail
  refine (U0 we gb 2 [oN,sN] 3 Oq.out (Di.out.f4 gb rfl) (by simp)).mono ?_;intro e w5 hO;obtain ⟨a5,c5,he,hS1⟩:=Di.out.s5 hO;have he:e= .returned (.slice a5 ln c5):=by rw [Em.out];exact he
  subst he;have HS:=zz hS1;clear hS1 hO Di;go_wp2_with fail
  (try refine ⟨HS.out.kp,?_⟩)
  rotate_left;refine Q8 rfl rfl (λq=>?_);obtain ⟨we,hwe⟩: ∃W,W=World.drewN (w2.drewN m0) q:=⟨_,rfl⟩;have hS0:=ES.drawn (n:=q) (ES.drawn (n:=m0) HS.out);rw [<-hwe] at hS0⊢;clear HS hwe;obtain ⟨kc,w3,hcv,k6,hs6,Q0g,_⟩:=Vx r.key we;have hS1:=hS0.s8 (c:=kc) k6 Q0g;obtain ⟨cb,hcb⟩: ∃e,e=we.heap.size:=⟨_,rfl⟩;rw [<-hcb] at hcv hS1;have Mn:=zz hcv;have HS:=zz hS1;clear hcv k6 hs6 Q0g hcb hS1 hS0;go_wp2_with fail
  rw [Mn.out];simp only [Result.andThen_ok];go_wp2_with fail
  (try refine ⟨HS.out.kp,?_⟩)
  refine Jy (λm1=>?_);refine Y3 ?_;refine Q8 rfl rfl (λq=>?_);obtain ⟨we,hwe⟩: ∃W,W=World.drewN (w3.drewN m1) q:=⟨_,rfl⟩;have hS0:=ES.drawn (n:=q) (ES.drawn (n:=m1) HS.out);rw [<-hwe] at hS0⊢;clear HS hwe;go_wp2_with fail
  obtain ⟨w4,hV⟩: ∃V,V=we.alloc (.cells #[.int .i64 (oN:Int), .int .i64 (sN:Int)] 3):=⟨_,rfl⟩;obtain ⟨gb,hgb⟩: ∃e,e=we.heap.size:=⟨_,rfl⟩;have hS1:=hS0.s4 hV hgb;have HS:=zz hS1;rw [<-hV,<-hgb];clear hV hgb hS1 hS0;refine ⟨HS.out.kp,?_⟩;refine Q8 rfl rfl (λq=>?_);obtain ⟨we,hwe⟩: ∃W,W=World.drewN w4 q:=⟨_,rfl⟩;have hS0:=ES.drawn (n:=q) (HS.out);rw [<-hwe] at hS0⊢;clear HS hwe;have Di:=zz hS0;clear hS0;go_wp2_with fail
  refine (U0 we gb 2 [oN,sN] 3 Oq.out (Di.out.f4 gb rfl) (by simp)).mono ?_;intro e w5 hO;obtain ⟨a5,c5,he,hS1⟩:=Di.out.s5 hO;have he:e= .returned (.slice a5 ln c5):=by rw [Em.out];exact he
  subst he;have HS:=zz hS1;clear hS1 hO Di;go_wp2_with fail
  (try refine ⟨HS.out.kp,?_⟩)
  all_goals
   refine Q8 rfl rfl (λq=>?_);obtain ⟨we,hwe⟩: ∃W,W=World.drewN w5 q:=⟨_,rfl⟩;have hS0:=ES.drawn (n:=q) (HS.out);rw [<-hwe] at hS0⊢;clear HS hwe;have Di:=zz hS0;clear hS0;go_wp2_with fail
   refine (Gb we (some ⟨cb,0,none⟩) kc r.key.data.toList (Di.out.f8 _ rfl) Qd3.out).mono ?_;rintro e w6 ⟨a9,c9,rfl,Qfw,Qve,hk9⟩;have hS1:=Di.out.no hk9;obtain ⟨l9,Qkv⟩: ∃l,l=(Jn r.key.data.toList).length:=⟨_,rfl⟩;rw [<-Qkv] at Qfw Qve⊢;have Qos:=zz (And.intro Qkv (And.intro Qfw Qve));clear Di Qfw Qve Qkv hk9;have HS:=zz hS1;clear hS1;go_wp2_with fail
   (try refine ⟨HS.out.kp,?_⟩)
   refine Q8 rfl rfl (λq2=>?_);obtain ⟨w7,hw7⟩: ∃W,W=w6.drewN q2:=⟨_,rfl⟩;have Q7q:Kp No w6 w7:=by rw [hw7];exact (Kp.refl No w6).drewN q2
   have hS7:=HS.out.no Q7q;have hlk:=Um Qd3.out
   have Quu:Mer.Own w7 5 1 (.slice a5 ln c5) ([oN,sN].flatMap Qq).length (u8s ([oN,sN].flatMap Qq))/\ ∀g,(Value.slice a5 ln c5).ownBlock=some g->w2.heap.size<=g:=by
    have:=hS7.f5 _ rfl;rw [<-Em.out] at this⊢;exact this
   obtain ⟨aA,cA,wA,h1,h2,h3,h4⟩:=Yb w2 w7 (.slice a5 ln c5) ([oN,sN].flatMap Qq) (Jn r.key.data.toList) Quu.1 Quu.2 hS7.kp a9 c9 (by
    have h5:=Qos.out.2.1;rw [Qos.out.1] at h5;exact Rd.kp (Own.rd' h5) Q7q) (by have:=Em.out;have:=J3v.out;have:=Qd3.out;omega)
   obtain ⟨X1,hX1⟩: ∃X,X=[oN,sN].flatMap Qq++Jn r.key.data.toList:=⟨_,rfl⟩;rw [<-hX1] at h1 h2 h3;rw [<-Qos.out.1] at h1;obtain ⟨l1,hl1⟩: ∃l,l=X1.length:=⟨_,rfl⟩;rw [<-hl1] at h1 h2 h3
   have Df:=zz (And.intro hX1 (And.intro hl1 (show l1<=200 from by
    have h5:=congrArg List.length hX1;rw [length_append] at h5;have:=Em.out;have:=J3v.out;have:=Qyi.out;omega)))
   have Qaf:=zz h1;have Qot:=zz (And.intro h2 (And.intro h3 h4));rw [<-hw7];clear hw7 Q7q hS7 hlk Quu h1 h2 h3 h4 hX1 hl1 HS Qos;refine wpList_append_run rfl rfl rfl rfl Qaf.out ?_;refine wpList_nil ?_;refine ⟨rfl,Qot.out.2.2,?_⟩;clear Qaf;repeat (first|refine zA ?_|refine zB ?_|refine zC ?_)
   refine Qa (λnq=>?_);obtain ⟨wB,hwB⟩: ∃W,W=wA.drewN nq:=⟨_,rfl⟩;have Cd:Kp No wA wB:=by rw [hwB];exact (Kp.refl No wA).drewN nq
   have Qwc:=Qot.out.2.2.Q0 Cd;have bB:=Qwc.get HB2.out λx=>x;have g3:wB.cell? ⟨b,3,none⟩=some (.int .i64 (mN:Int)):=(Q4 bB 3).trans (by rw [<-HN.out.2.2.1];rfl);have g4:wB.cell? ⟨b,4,none⟩=some (.int .i64 (cN:Int)):=(Q4 bB 4).trans (by rw [<-HN.out.2.2.2.1];rfl);have g8:wB.cell? ⟨b,8,none⟩=some (.int .i64 (tN:Int)):=(Q4 bB 8).trans (by rw [<-HN.out.2.2.2.2];rfl);have hlB:=Q7 bB;obtain ⟨wC,Q7j⟩: ∃W,W=wB.alloc (.cells #[.int .i64 (mN:Int), .int .i64 (cN:Int), .int .i64 1, .int .i64 (tN:Int)] 3):=⟨_,rfl⟩;have Q7r:Kp No wB wC:=by rw [Q7j];exact (Kp.refl No wB).alloc _
   obtain ⟨gC,Qvg⟩: ∃g,g=wB.heap.size:=⟨_,rfl⟩
   have hnu:=U0 wC gC 4 [mN,cN,1,tN] 3 (λn hn=>by
    have:=Am.out;simp only [mem_cons,not_mem_nil,or_false] at hn;rcases hn with rfl|rfl|rfl|rfl<;>omega) (by rw [Q7j,Qvg];exact heap_alloc_new wB _) (by simp)
   have Cx:=zz hnu;have Que:=zz (And.intro Q7j Qvg);have Q2i:=zz (Qwc.Q0 Q7r);have Qz1:=zz ((Qot.out.1.keep Cd λ_ _ x=>x).keep Q7r λ_ _ x=>x);rw [<-hwB];clear hwB Cd Qwc bB Q7j Q7r Qvg hnu;go_wp2_with fail
   rw [<-Que.out.1,<-Que.out.2];refine Cx.out.mono ?_;rintro e wD ⟨aD,cD,rfl,Qvt,J13,kD⟩;obtain ⟨F4,Qfu⟩: ∃F,F=[mN,cN,1,tN].flatMap Qq:=⟨_,rfl⟩;rw [<-Qfu] at Qvt J13⊢
   have hl4:F4.length<=36:=by
    have h1:=J4 (n:=mN) (by have:=Am.out;omega);have h2:=J4 (n:=cN) (by have:=Am.out;omega);have h3:=J4 (n:=1) (by omega);have h4:=J4 (n:=tN) (by have:=Am.out;omega);rw [Qfu];simp only [flatMap_cons,flatMap_nil,append_nil,length_append];omega
   obtain ⟨aE,cE,wE,h1,h2,h3,h4⟩:=Yb w2 wD (.slice aA l1 cA) X1 F4 (by
    have:=Qz1.out.keep kD λ_ _ x=>x;rw [<-Df.out.2.1];exact this) Qot.out.2.1 (Q2i.out.Q0 kD) aD cD (Own.rd' Qvt) (by have:=Df.out.2.1;have:=Df.out.2.2;omega)
   obtain ⟨X2,hX2⟩: ∃X,X=X1++F4:=⟨_,rfl⟩;rw [<-hX2] at h1 h2 h3;obtain ⟨l2,Qbj⟩: ∃l,l=X2.length:=⟨_,rfl⟩;rw [<-Qbj] at h1 h2 h3;obtain ⟨l4,Qkt⟩: ∃l,l=F4.length:=⟨_,rfl⟩;rw [<-Qkt] at h1⊢
   have Hq:=zz (And.intro hX2 (And.intro Qbj (And.intro Qfu (show l2<=300 from by
    have h5:=congrArg List.length hX2;rw [length_append] at h5;have:=Df.out.2.1;have:=Df.out.2.2;omega))))
   have Qu8:=zz h1;have Qu2:=zz (And.intro h2 (And.intro h3 h4));have bE:=h4.get HB2.out λx=>x;have g6:wE.cell? ⟨b,6,none⟩=some (.slice a r.v.val.length cap):=Q4 bE 6;have J7x:=Q7 bE;have Qoj:=zz (Gb wE a cap r.v.val (Rd.kp Ky.out h4) (by have:=HP.out.vl;omega));clear Qvt J13 kD Qfu hl4 h1 h2 h3 h4 hX2 Qbj Qkt bE Cx Que Q2i Qz1 g3 g4 g8 hlB;go_wp2_with (at_builtin;refine wpList_append_run rfl rfl rfl rfl Qu8.out ?_;clear Qu8)
   refine Qoj.out.mono ?_;rintro e wF ⟨aF,cF,rfl,Qvu,J14,kF⟩;obtain ⟨F5,Qpv⟩: ∃F,F=Jn r.v.val:=⟨_,rfl⟩;rw [<-Qpv] at Qvu J14⊢
   have hl5:F5.length<=2000:=by
    have h1:=Um (p:=r.v.val) (by have:=HP.out.vl;omega);have:=HP.out.vl;rw [Qpv];omega
   obtain ⟨aG,cG,wG,h1,h2,h3,h4⟩:=Yb w2 wF (.slice aE l2 cE) X2 F5 (by
    have:=Qu2.out.1.keep kF λ_ _ x=>x;rw [<-Hq.out.2.1];exact this) Qu2.out.2.1 (Qu2.out.2.2.Q0 kF) aF cF (Own.rd' Qvu) (by have:=Hq.out.2.1;have:=Hq.out.2.2.2;omega)
   have hall:X2++F5=Vl r:=by
    rw [Hq.out.1,Df.out.1,Hq.out.2.2.1,Qpv];unfold Vl;rw [HN.out.1,HN.out.2.1,HN.out.2.2.1,HN.out.2.2.2.1,HN.out.2.2.2.2,Q62.out];simp only [flatMap_cons,flatMap_nil,append_nil,List.append_assoc,Int.toNat_natCast]
   rw [hall] at h1 h2 h3;obtain ⟨l5,Qku⟩: ∃l,l=F5.length:=⟨_,rfl⟩;rw [<-Qku] at h1⊢;have Qou:=zz h1;have Qey:=zz (And.intro h2 (And.intro h3 h4));obtain ⟨lr,hlr⟩: ∃l,l=(Vl r).length:=⟨_,rfl⟩;rw [<-hlr] at Qou;have Qab:=zz hlr;clear Qvu J14 kF Qpv hl5 hall h1 h2 h3 h4 Qku Qoj g6 J7x hlr;go_wp2_with (at_builtin;refine wpList_append_run rfl rfl rfl rfl Qou.out ?_;clear Qou)
   go_ret2
   rw [Qab.out];have hk2:=J9.out.size;exact ⟨aG,cG,rfl,Qey.out.1,λg hg=>Nat.le_trans hk2 (Qey.out.2.1 g hg),J9.out.Q0 Qey.out.2.2⟩
 ·have Q62:=zz (show Ev r.v.gone=0 from by rw [hg];rfl);have HG:=zz hg;clear hg;go_enter Tryz.func120,Tryz.ntmps120
  go_upto_region 1 with fail
  rw [<-HW1.out,<-Gd.out];go_wp2_with (refine Qj rfl 46 _ rfl b 0 rfl _ _ R1 Tryz.underlying46 rfl (by kernel_rfl) ?_)
  refine HIS.out.mono ?_;rintro e w2 ⟨rfl,k2⟩;have HB2:=zz (k2.get HB1.out λx=>x);have J9:=zz (Yq.out.Q0 k2);have Ky:=zz (Rd.kp Qag.out J9.out);have d7:w2.cell? ⟨b,7,none⟩=some (.bool false):=by rw [<-HG.out];exact Q4 HB2.out 7
  have hl2:=Q7 HB2.out;clear k2;go_upto_region 6 with fail
  have HS:=zz (ES.start w2 oN sN r.key);have e0: ∀W,Kp No w2 W->W.cell? ⟨b,0,none⟩=some (.int .i64 (oN:Int)):=λW hW=>(Q4 (hW.get HB2.out λx=>x) 0).trans (by rw [<-HN.out.1];rfl);have e1: ∀W,Kp No w2 W->W.cell? ⟨b,1,none⟩=some (.int .i64 (sN:Int)):=λW hW=>(Q4 (hW.get HB2.out λx=>x) 1).trans (by rw [<-HN.out.2.1];rfl);have e2: ∀W,Kp No w2 W->W.cell? ⟨b,2,none⟩=some (.string r.key):=λW hW=>Q4 (hW.get HB2.out λx=>x) 2;clear d7;refine Ga (Kp No w2) [0,0,0,0,2,2,0,0,2,2,2,0] (.fork [0,1,2,3,6,7] 4 8 (.fork [] 5 8 (.leaf [8,9,10,11]) (.leaf [5,9,10,11])) (.leaf [4,5,9,10,11])) (by kernel_rfl) (by kernel_rfl) (λ_ n h=>h.drewN n) zK ?_;refine V1 ?_;repeat (first|refine zA ?_|refine zB ?_|refine zC ?_)
  refine V0 (λn=>zK.drewN n) (λm0=>?_) (λm0=>?_);refine Q8 rfl rfl (λq=>?_);obtain ⟨we,hwe⟩: ∃W,W=World.drewN (w2.drewN m0) q:=⟨_,rfl⟩;have hS0:=ES.drawn (n:=q) (ES.drawn (n:=m0) HS.out);rw [<-hwe] at hS0⊢;clear HS hwe;go_wp2_with fail
  obtain ⟨w3,hV⟩: ∃V,V=we.alloc (.cells #[.int .i64 (oN:Int), .int .i64 (sN:Int)] 3):=⟨_,rfl⟩;obtain ⟨gb,hgb⟩: ∃e,e=we.heap.size:=⟨_,rfl⟩;have hS1:=hS0.s4 hV hgb;have HS:=zz hS1;rw [<-hV,<-hgb];clear hV hgb hS1 hS0;refine ⟨HS.out.kp,?_⟩;refine Jy (λm1=>?_);refine V1 ?_;refine V0 (λn=>(HS.out.kp.drewN m1).drewN n) (λm2=>?_) (λm2=>?_);refine Q8 rfl rfl (λq=>?_);obtain ⟨we,hwe⟩: ∃W,W=World.drewN ((w3.drewN m1).drewN m2) q:=⟨_,rfl⟩;have hS0:=ES.drawn (n:=q) (ES.drawn (n:=m2) (ES.drawn (n:=m1) HS.out));rw [<-hwe] at hS0⊢;clear HS hwe;have Di:=zz hS0;clear hS0;go_wp2_with fail
  refine (U0 we gb 2 [oN,sN] 3 Oq.out (Di.out.f4 gb rfl) (by simp)).mono ?_;intro e w4 hO;obtain ⟨a5,c5,he,hS1⟩:=Di.out.s5 hO;have he:e= .returned (.slice a5 ln c5):=by rw [Em.out];exact he
  subst he;have HS:=zz hS1;clear hS1 hO Di;go_wp2_with fail
  (try refine ⟨HS.out.kp,?_⟩)
  refine Jy (λm3=>?_);refine Y3 ?_;refine Q8 rfl rfl (λq=>?_);obtain ⟨we,hwe⟩: ∃W,W=World.drewN (w4.drewN m3) q:=⟨_,rfl⟩;have hS0:=ES.drawn (n:=q) (ES.drawn (n:=m3) HS.out);rw [<-hwe] at hS0⊢;clear HS hwe;obtain ⟨kc,w5,hcv,k6,hs6,Q0g,_⟩:=Vx r.key we;have hS1:=hS0.s8 (c:=kc) k6 Q0g;obtain ⟨cb,hcb⟩: ∃e,e=we.heap.size:=⟨_,rfl⟩;rw [<-hcb] at hcv hS1;have Mn:=zz hcv;have HS:=zz hS1;clear hcv k6 hs6 Q0g hcb hS1 hS0;go_wp2_with fail
  rw [Mn.out];simp only [Result.andThen_ok];go_wp2_with fail
  (try refine ⟨HS.out.kp,?_⟩)
  rotate_left;refine Q8 rfl rfl (λq=>?_);obtain ⟨we,hwe⟩: ∃W,W=World.drewN ((w3.drewN m1).drewN m2) q:=⟨_,rfl⟩;have hS0:=ES.drawn (n:=q) (ES.drawn (n:=m2) (ES.drawn (n:=m1) HS.out));rw [<-hwe] at hS0⊢;clear HS hwe;obtain ⟨kc,w4,hcv,k6,hs6,Q0g,_⟩:=Vx r.key we;have hS1:=hS0.s8 (c:=kc) k6 Q0g;obtain ⟨cb,hcb⟩: ∃e,e=we.heap.size:=⟨_,rfl⟩;rw [<-hcb] at hcv hS1;have Mn:=zz hcv;have HS:=zz hS1;clear hcv k6 hs6 Q0g hcb hS1 hS0;go_wp2_with fail
  rw [Mn.out];simp only [Result.andThen_ok];go_wp2_with fail
  (try refine ⟨HS.out.kp,?_⟩)
  refine Jy (λm3=>?_);refine Y3 ?_;refine Q8 rfl rfl (λq=>?_);obtain ⟨we,hwe⟩: ∃W,W=World.drewN (w4.drewN m3) q:=⟨_,rfl⟩;have hS0:=ES.drawn (n:=q) (ES.drawn (n:=m3) HS.out);rw [<-hwe] at hS0⊢;clear HS hwe;have Di:=zz hS0;clear hS0;go_wp2_with fail
  refine (U0 we gb 2 [oN,sN] 3 Oq.out (Di.out.f4 gb rfl) (by simp)).mono ?_;intro e w5 hO;obtain ⟨a5,c5,he,hS1⟩:=Di.out.s5 hO;have he:e= .returned (.slice a5 ln c5):=by rw [Em.out];exact he
  subst he;have HS:=zz hS1;clear hS1 hO Di;go_wp2_with fail
  (try refine ⟨HS.out.kp,?_⟩)
  rotate_left;refine Q8 rfl rfl (λq=>?_);obtain ⟨we,hwe⟩: ∃W,W=World.drewN (w2.drewN m0) q:=⟨_,rfl⟩;have hS0:=ES.drawn (n:=q) (ES.drawn (n:=m0) HS.out);rw [<-hwe] at hS0⊢;clear HS hwe;obtain ⟨kc,w3,hcv,k6,hs6,Q0g,_⟩:=Vx r.key we;have hS1:=hS0.s8 (c:=kc) k6 Q0g;obtain ⟨cb,hcb⟩: ∃e,e=we.heap.size:=⟨_,rfl⟩;rw [<-hcb] at hcv hS1;have Mn:=zz hcv;have HS:=zz hS1;clear hcv k6 hs6 Q0g hcb hS1 hS0;go_wp2_with fail
  rw [Mn.out];simp only [Result.andThen_ok];go_wp2_with fail
  (try refine ⟨HS.out.kp,?_⟩)
  refine Jy (λm1=>?_);refine Y3 ?_;refine Q8 rfl rfl (λq=>?_);obtain ⟨we,hwe⟩: ∃W,W=World.drewN (w3.drewN m1) q:=⟨_,rfl⟩;have hS0:=ES.drawn (n:=q) (ES.drawn (n:=m1) HS.out);rw [<-hwe] at hS0⊢;clear HS hwe;go_wp2_with fail
  obtain ⟨w4,hV⟩: ∃V,V=we.alloc (.cells #[.int .i64 (oN:Int), .int .i64 (sN:Int)] 3):=⟨_,rfl⟩;obtain ⟨gb,hgb⟩: ∃e,e=we.heap.size:=⟨_,rfl⟩;have hS1:=hS0.s4 hV hgb;have HS:=zz hS1;rw [<-hV,<-hgb];clear hV hgb hS1 hS0;refine ⟨HS.out.kp,?_⟩;refine Q8 rfl rfl (λq=>?_);obtain ⟨we,hwe⟩: ∃W,W=World.drewN w4 q:=⟨_,rfl⟩;have hS0:=ES.drawn (n:=q) (HS.out);rw [<-hwe] at hS0⊢;clear HS hwe;have Di:=zz hS0;clear hS0;go_wp2_with fail
  refine (U0 we gb 2 [oN,sN] 3 Oq.out (Di.out.f4 gb rfl) (by simp)).mono ?_;intro e w5 hO;obtain ⟨a5,c5,he,hS1⟩:=Di.out.s5 hO;have he:e= .returned (.slice a5 ln c5):=by rw [Em.out];exact he
  subst he;have HS:=zz hS1;clear hS1 hO Di;go_wp2_with fail
  (try refine ⟨HS.out.kp,?_⟩)
  all_goals
   refine Q8 rfl rfl (λq=>?_);obtain ⟨we,hwe⟩: ∃W,W=World.drewN w5 q:=⟨_,rfl⟩;have hS0:=ES.drawn (n:=q) (HS.out);rw [<-hwe] at hS0⊢;clear HS hwe;have Di:=zz hS0;clear hS0;go_wp2_with fail
   refine (Gb we (some ⟨cb,0,none⟩) kc r.key.data.toList (Di.out.f8 _ rfl) Qd3.out).mono ?_;rintro e w6 ⟨a9,c9,rfl,Qfw,Qve,hk9⟩;have hS1:=Di.out.no hk9;obtain ⟨l9,Qkv⟩: ∃l,l=(Jn r.key.data.toList).length:=⟨_,rfl⟩;rw [<-Qkv] at Qfw Qve⊢;have Qos:=zz (And.intro Qkv (And.intro Qfw Qve));clear Di Qfw Qve Qkv hk9;have HS:=zz hS1;clear hS1;go_wp2_with fail
   (try refine ⟨HS.out.kp,?_⟩)
   refine Q8 rfl rfl (λq2=>?_);obtain ⟨w7,hw7⟩: ∃W,W=w6.drewN q2:=⟨_,rfl⟩;have Q7q:Kp No w6 w7:=by rw [hw7];exact (Kp.refl No w6).drewN q2
   have hS7:=HS.out.no Q7q;have hlk:=Um Qd3.out
   have Quu:Mer.Own w7 5 1 (.slice a5 ln c5) ([oN,sN].flatMap Qq).length (u8s ([oN,sN].flatMap Qq))/\ ∀g,(Value.slice a5 ln c5).ownBlock=some g->w2.heap.size<=g:=by
    have:=hS7.f5 _ rfl;rw [<-Em.out] at this⊢;exact this
   obtain ⟨aA,cA,wA,h1,h2,h3,h4⟩:=Yb w2 w7 (.slice a5 ln c5) ([oN,sN].flatMap Qq) (Jn r.key.data.toList) Quu.1 Quu.2 hS7.kp a9 c9 (by
    have h5:=Qos.out.2.1;rw [Qos.out.1] at h5;exact Rd.kp (Own.rd' h5) Q7q) (by have:=Em.out;have:=J3v.out;have:=Qd3.out;omega)
   obtain ⟨X1,hX1⟩: ∃X,X=[oN,sN].flatMap Qq++Jn r.key.data.toList:=⟨_,rfl⟩;rw [<-hX1] at h1 h2 h3;rw [<-Qos.out.1] at h1;obtain ⟨l1,hl1⟩: ∃l,l=X1.length:=⟨_,rfl⟩;rw [<-hl1] at h1 h2 h3
   have Df:=zz (And.intro hX1 (And.intro hl1 (show l1<=200 from by
    have h5:=congrArg List.length hX1;rw [length_append] at h5;have:=Em.out;have:=J3v.out;have:=Qyi.out;omega)))
   have Qaf:=zz h1;have Qot:=zz (And.intro h2 (And.intro h3 h4));rw [<-hw7];clear hw7 Q7q hS7 hlk Quu h1 h2 h3 h4 hX1 hl1 HS Qos;refine wpList_append_run rfl rfl rfl rfl Qaf.out ?_;refine wpList_nil ?_;refine ⟨rfl,Qot.out.2.2,?_⟩;clear Qaf;repeat (first|refine zA ?_|refine zB ?_|refine zC ?_)
   refine Qa (λnq=>?_);obtain ⟨wB,hwB⟩: ∃W,W=wA.drewN nq:=⟨_,rfl⟩;have Cd:Kp No wA wB:=by rw [hwB];exact (Kp.refl No wA).drewN nq
   have Qwc:=Qot.out.2.2.Q0 Cd;have bB:=Qwc.get HB2.out λx=>x;have g3:wB.cell? ⟨b,3,none⟩=some (.int .i64 (mN:Int)):=(Q4 bB 3).trans (by rw [<-HN.out.2.2.1];rfl);have g4:wB.cell? ⟨b,4,none⟩=some (.int .i64 (cN:Int)):=(Q4 bB 4).trans (by rw [<-HN.out.2.2.2.1];rfl);have g8:wB.cell? ⟨b,8,none⟩=some (.int .i64 (tN:Int)):=(Q4 bB 8).trans (by rw [<-HN.out.2.2.2.2];rfl);have hlB:=Q7 bB;obtain ⟨wC,Q7j⟩: ∃W,W=wB.alloc (.cells #[.int .i64 (mN:Int), .int .i64 (cN:Int), .int .i64 0, .int .i64 (tN:Int)] 3):=⟨_,rfl⟩;have Q7r:Kp No wB wC:=by rw [Q7j];exact (Kp.refl No wB).alloc _
   obtain ⟨gC,Qvg⟩: ∃g,g=wB.heap.size:=⟨_,rfl⟩
   have hnu:=U0 wC gC 4 [mN,cN,0,tN] 3 (λn hn=>by
    have:=Am.out;simp only [mem_cons,not_mem_nil,or_false] at hn;rcases hn with rfl|rfl|rfl|rfl<;>omega) (by rw [Q7j,Qvg];exact heap_alloc_new wB _) (by simp)
   have Cx:=zz hnu;have Que:=zz (And.intro Q7j Qvg);have Q2i:=zz (Qwc.Q0 Q7r);have Qz1:=zz ((Qot.out.1.keep Cd λ_ _ x=>x).keep Q7r λ_ _ x=>x);rw [<-hwB];clear hwB Cd Qwc bB Q7j Q7r Qvg hnu;go_wp2_with fail
   rw [<-Que.out.1,<-Que.out.2];refine Cx.out.mono ?_;rintro e wD ⟨aD,cD,rfl,Qvt,J13,kD⟩;obtain ⟨F4,Qfu⟩: ∃F,F=[mN,cN,0,tN].flatMap Qq:=⟨_,rfl⟩;rw [<-Qfu] at Qvt J13⊢
   have hl4:F4.length<=36:=by
    have h1:=J4 (n:=mN) (by have:=Am.out;omega);have h2:=J4 (n:=cN) (by have:=Am.out;omega);have h3:=J4 (n:=0) (by omega);have h4:=J4 (n:=tN) (by have:=Am.out;omega);rw [Qfu];simp only [flatMap_cons,flatMap_nil,append_nil,length_append];omega
   obtain ⟨aE,cE,wE,h1,h2,h3,h4⟩:=Yb w2 wD (.slice aA l1 cA) X1 F4 (by
    have:=Qz1.out.keep kD λ_ _ x=>x;rw [<-Df.out.2.1];exact this) Qot.out.2.1 (Q2i.out.Q0 kD) aD cD (Own.rd' Qvt) (by have:=Df.out.2.1;have:=Df.out.2.2;omega)
   obtain ⟨X2,hX2⟩: ∃X,X=X1++F4:=⟨_,rfl⟩;rw [<-hX2] at h1 h2 h3;obtain ⟨l2,Qbj⟩: ∃l,l=X2.length:=⟨_,rfl⟩;rw [<-Qbj] at h1 h2 h3;obtain ⟨l4,Qkt⟩: ∃l,l=F4.length:=⟨_,rfl⟩;rw [<-Qkt] at h1⊢
   have Hq:=zz (And.intro hX2 (And.intro Qbj (And.intro Qfu (show l2<=300 from by
    have h5:=congrArg List.length hX2;rw [length_append] at h5;have:=Df.out.2.1;have:=Df.out.2.2;omega))))
   have Qu8:=zz h1;have Qu2:=zz (And.intro h2 (And.intro h3 h4));have bE:=h4.get HB2.out λx=>x;have g6:wE.cell? ⟨b,6,none⟩=some (.slice a r.v.val.length cap):=Q4 bE 6;have J7x:=Q7 bE;have Qoj:=zz (Gb wE a cap r.v.val (Rd.kp Ky.out h4) (by have:=HP.out.vl;omega));clear Qvt J13 kD Qfu hl4 h1 h2 h3 h4 hX2 Qbj Qkt bE Cx Que Q2i Qz1 g3 g4 g8 hlB;go_wp2_with (at_builtin;refine wpList_append_run rfl rfl rfl rfl Qu8.out ?_;clear Qu8)
   refine Qoj.out.mono ?_;rintro e wF ⟨aF,cF,rfl,Qvu,J14,kF⟩;obtain ⟨F5,Qpv⟩: ∃F,F=Jn r.v.val:=⟨_,rfl⟩;rw [<-Qpv] at Qvu J14⊢
   have hl5:F5.length<=2000:=by
    have h1:=Um (p:=r.v.val) (by have:=HP.out.vl;omega);have:=HP.out.vl;rw [Qpv];omega
   obtain ⟨aG,cG,wG,h1,h2,h3,h4⟩:=Yb w2 wF (.slice aE l2 cE) X2 F5 (by
    have:=Qu2.out.1.keep kF λ_ _ x=>x;rw [<-Hq.out.2.1];exact this) Qu2.out.2.1 (Qu2.out.2.2.Q0 kF) aF cF (Own.rd' Qvu) (by have:=Hq.out.2.1;have:=Hq.out.2.2.2;omega)
   have hall:X2++F5=Vl r:=by
    rw [Hq.out.1,Df.out.1,Hq.out.2.2.1,Qpv];unfold Vl;rw [HN.out.1,HN.out.2.1,HN.out.2.2.1,HN.out.2.2.2.1,HN.out.2.2.2.2,Q62.out];simp only [flatMap_cons,flatMap_nil,append_nil,List.append_assoc,Int.toNat_natCast]
   rw [hall] at h1 h2 h3;obtain ⟨l5,Qku⟩: ∃l,l=F5.length:=⟨_,rfl⟩;rw [<-Qku] at h1⊢;have Qou:=zz h1;have Qey:=zz (And.intro h2 (And.intro h3 h4));obtain ⟨lr,hlr⟩: ∃l,l=(Vl r).length:=⟨_,rfl⟩;rw [<-hlr] at Qou;have Qab:=zz hlr;clear Qvu J14 kF Qpv hl5 hall h1 h2 h3 h4 Qku Qoj g6 J7x hlr;go_wp2_with (at_builtin;refine wpList_append_run rfl rfl rfl rfl Qou.out ?_;clear Qou)
   go_ret2
   rw [Qab.out];have hk2:=J9.out.size;exact ⟨aG,cG,rfl,Qey.out.1,λg hg=>Nat.le_trans hk2 (Qey.out.2.1 g hg),J9.out.Q0 Qey.out.2.2⟩
end Go.Proofs.YtgnkmjeoaoongaaGreatDoor
