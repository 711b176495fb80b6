/-
  SXEncR.
-/
import Derived.Test.YtgnkmjeoaoongaaGreatDoorXd6
set_option maxRecDepth 100000
set_option maxHeartbeats 4000000
namespace Go.Proofs.YtgnkmjeoaoongaaGreatDoor
open Go.RowKit Go.Mer
structure ES (wq W:World) (n1 n2:Nat) (key:ByteArray) (g:Option Nat) (a k:Option (Option Addr×Nat)):Prop where
 kp:Kp No wq W
 f4: ∀x,g=some x->W.heap[x]?=some (.cells #[.int .i64 (n1:Int), .int .i64 (n2:Int)] 3 (0,0))
 f5: ∀x,a=some x->Mer.Own W 5 1 (.slice x.1 ([n1,n2].flatMap Ql).length x.2) ([n1,n2].flatMap Ql).length (u8s ([n1,n2].flatMap Ql))/\ ∀b,(Value.slice x.1 ([n1,n2].flatMap Ql).length x.2).ownBlock=some b->wq.heap.size<=b
 f8: ∀x,k=some x->Rd W W.heap.size x.1 (u8s key.data.toList)
section
variable {wq W V:World} {n1 n2:Nat} {key:ByteArray} {g:Option Nat} {a k:Option (Option Addr×Nat)}
theorem ES.start (w:World) (n1 n2:Nat) (key:ByteArray):ES w w n1 n2 key none none none:=⟨Kp.refl _ _,λ_ h=>(by cases h),λ_ h=>(by cases h),λ_ h=>(by cases h)⟩
theorem ES.no (h:ES wq W n1 n2 key g a k) (hk:Kp No W V):ES wq V n1 n2 key g a k:=
 ⟨h.kp.trans_same hk,λx hx=>hk.get (h.f4 x hx) λx=>x,λx hx=>⟨(h.f5 x hx).1.keep hk λ_ _ x=>x,(h.f5 x hx).2⟩,λx hx=>Rd.kp (h.f8 x hx) hk⟩
theorem ES.drawn (h:ES wq W n1 n2 key g a k) {n:Nat}:ES wq (W.drewN n) n1 n2 key g a k:=h.no ⟨rfl,rfl,rfl,Nat.le_refl _,λ_ _ _=>rfl⟩
theorem ES.s4 (h:ES wq W n1 n2 key none a k) {x:Nat} (hV:V=W.alloc (.cells #[.int .i64 (n1:Int), .int .i64 (n2:Int)] 3)) (hx:x=W.heap.size):ES wq V n1 n2 key (some x) a k:=by
 have hk:Kp No W V:=by rw [hV];exact zK.alloc _
 have h1:=h.no hk;refine ⟨h1.kp,λy hy=>?_,h1.f5,h1.f8⟩;injection hy with hy;subst hy;rw [hx,hV];exact heap_alloc_new W _
theorem ES.s5 {e:Ending} (h:ES wq W n1 n2 key g none k) (hO:Q9m W ([n1,n2].flatMap Ql) e V): ∃x c,e= .returned (.slice x ([n1,n2].flatMap Ql).length c)/\ES wq V n1 n2 key g (some (x,c)) k:=by
 obtain ⟨x,c,rfl,ho,hf,hk⟩:=hO;have h1:=h.no hk;refine ⟨x,c,rfl,h1.kp,h1.f4,λy hy=>?_,h1.f8⟩;injection hy with hy;subst hy;exact ⟨ho,λb hb=>Nat.le_trans h.kp.size (hf b hb)⟩
theorem ES.s8 (h:ES wq W n1 n2 key g a none) (hk:Kp No W V) {x:Option Addr} {c:Nat} (hr:Rd V V.heap.size x (u8s key.data.toList)):ES wq V n1 n2 key g a (some (x,c)):=by
 have h1:=h.no hk;refine ⟨h1.kp,h1.f4,h1.f5,λy hy=>?_⟩;injection hy with hy;subst hy;exact hr
end
theorem Vy {p:List UInt8} (h:p.length<=1000000000):(Jg p).length<=p.length+9:=by
 have:=Qm (n:=p.length) (by omega);unfold Jg;rw [List.length_append];omega
theorem Qis (w:World) (x:Qa) (hx:x.rd w) (hr:Jv x.r=true):Calls Tryz.prog 120 #[Ig x] w (Q73 w (U6 x.r)):=by
 obtain ⟨w1,hw1⟩: ∃W,W=w.alloc (.cells (recC x).toArray 46):=⟨_,rfl⟩;have k1:Kp No w w1:=by rw [hw1];exact zK.alloc _
 obtain ⟨b,hb⟩: ∃b,b=w.heap.size:=⟨_,rfl⟩;have b1:w1.heap[b]?=some (.cells (recC x).toArray 46 (0,0)):=by rw [hw1,hb];exact heap_alloc_new w _
 have R1:=zz (show w1.rangeAt b 0 (recC x) from by have:=Qb b1 0 9;exact this);have his:=Qaw x w1;rw [hr] at his;have HIS:=zz his;have HP:=zz (Br.1 hr);have Q7d:=zz (show Rd w w.heap.size x.a (u8s x.r.v.val) from hx.1);have U8:=zz k1;have HB1:=zz b1;have HW1:=zz hw1;have Hu:=zz hb;obtain ⟨r,a,cap⟩:=x;simp only at HP Q7d⊢
 have hst:=Zh.1 HP.out.st;obtain ⟨oN,Q1a⟩: ∃n:Nat,r.o=(n:Int):=⟨r.o.toNat,by have:=HP.out.o0;omega⟩;obtain ⟨sN,J5m⟩: ∃n:Nat,r.seq=(n:Int):=⟨r.seq.toNat,by have:=HP.out.q1;omega⟩;obtain ⟨mN,hmN⟩: ∃n:Nat,r.v.m=(n:Int):=⟨r.v.m.toNat,by omega⟩;obtain ⟨cN,J5c⟩: ∃n:Nat,r.v.c=(n:Int):=⟨r.v.c.toNat,by omega⟩;obtain ⟨tN,J5n⟩: ∃n:Nat,r.v.ttl=(n:Int):=⟨r.v.ttl.toNat,by have:=HP.out.t0;omega⟩;have HN:=zz (And.intro Q1a (And.intro J5m (And.intro hmN (And.intro J5c J5n))));have Cj:=zz (show oN<=4/\sN<=1099511627776/\mN<=281474976710655/\cN<=65535/\tN<=281474976710655 from ⟨by have:=HP.out.o5;omega,by have:=HP.out.q2;omega,by omega,by omega,by have:=HP.out.t1;omega⟩)
 have Ds:=zz (show ∀n∈[oN,sN],n<=4611686018427387904 from λn hn=>by
  have:=Cj.out;simp only [List.mem_cons,List.not_mem_nil,or_false] at hn;rcases hn with rfl|rfl<;>omega)
 have Qtc:=zz (show (Jg r.key.data.toList).length<=73 from by
  have h3:=HP.out.k2;have h4:=Xz r.key;have:=Vy (p:=r.key.data.toList) (by omega);omega)
 have Qjs:=zz (show r.key.data.toList.length<=1000000000 from by have h3:=HP.out.k2;have h4:=Xz r.key;omega);obtain ⟨ln,hln⟩: ∃l,l=([oN,sN].flatMap Ql).length:=⟨_,rfl⟩;have E4:=zz hln
 have Qxr:=zz (show ln<=18 from by
  have h1:=Qm (n:=oN) (by have:=Cj.out;omega);have h2:=Qm (n:=sN) (by have:=Cj.out;omega);rw [hln];simp only [List.flatMap_cons,List.flatMap_nil,List.append_nil,List.length_append];omega)
 unfold Ig recC Qa.sl;unfold recC Qa.sl at HW1;simp only at HW1⊢
 clear k1 b1 hw1 hr his hx hb hst Q1a J5m hmN J5c J5n hln;rcases Bool.eq_false_or_eq_true r.v.gone with hg|hg
 ·have Q3i:=zz (show Mk r.v.gone=1 from by rw [hg];rfl);have HG:=zz hg;clear hg;go_enter Tryz.func120,Tryz.ntmps120
  go_upto_region 1 with fail
  rw [<-HW1.out,<-Hu.out];go_wp2_with (refine Qe rfl 46 _ rfl b 0 rfl _ _ R1 Tryz.underlying46 rfl (by kernel_rfl) ?_)
  refine HIS.out.mono ?_;rintro e w2 ⟨rfl,k2⟩;have HB2:=zz (k2.get HB1.out λx=>x);have Qz:=zz (U8.out.trans_same k2);have M8:=zz (Rd.kp Q7d.out Qz.out);have d7:w2.cell? ⟨b,7,none⟩=some (.bool true):=by rw [<-HG.out];exact Q0 HB2.out 7
  have hl2:=Q3 HB2.out;clear k2;go_upto_region 6 with fail
  have HS:=zz (ES.start w2 oN sN r.key);have e0: ∀W,Kp No w2 W->W.cell? ⟨b,0,none⟩=some (.int .i64 (oN:Int)):=λW hW=>(Q0 (hW.get HB2.out λx=>x) 0).trans (by rw [<-HN.out.1];rfl);have e1: ∀W,Kp No w2 W->W.cell? ⟨b,1,none⟩=some (.int .i64 (sN:Int)):=λW hW=>(Q0 (hW.get HB2.out λx=>x) 1).trans (by rw [<-HN.out.2.1];rfl);have e2: ∀W,Kp No w2 W->W.cell? ⟨b,2,none⟩=some (.string r.key):=λW hW=>Q0 (hW.get HB2.out λx=>x) 2;clear d7;refine Ef (Kp No w2) [0,0,0,0,2,2,0,0,2,2,2,0] (.fork [0,1,2,3,6,7] 4 8 (.fork [] 5 8 (.leaf [8,9,10,11]) (.leaf [5,9,10,11])) (.leaf [4,5,9,10,11])) (by kernel_rfl) (by kernel_rfl) (λ_ n h=>h.drewN n) zK ?_;refine Xl ?_;repeat (first|refine zA ?_|refine zB ?_|refine zC ?_)
  refine Xk (λn=>zK.drewN n) (λm0=>?_) (λm0=>?_);refine Q4 rfl rfl (λq=>?_);obtain ⟨we,hwe⟩: ∃W,W=World.drewN (w2.drewN m0) q:=⟨_,rfl⟩;have hS0:=ES.drawn (n:=q) (ES.drawn (n:=m0) HS.out);rw [<-hwe] at hS0⊢;clear HS hwe;go_wp2_with fail
  obtain ⟨w3,hV⟩: ∃V,V=we.alloc (.cells #[.int .i64 (oN:Int), .int .i64 (sN:Int)] 3):=⟨_,rfl⟩;obtain ⟨gb,hgb⟩: ∃e,e=we.heap.size:=⟨_,rfl⟩;have hS1:=hS0.s4 hV hgb;have HS:=zz hS1;rw [<-hV,<-hgb];clear hV hgb hS1 hS0;refine ⟨HS.out.kp,?_⟩;refine Ji (λm1=>?_);refine Xl ?_;refine Xk (λn=>(HS.out.kp.drewN m1).drewN n) (λm2=>?_) (λm2=>?_);refine Q4 rfl rfl (λq=>?_);obtain ⟨we,hwe⟩: ∃W,W=World.drewN ((w3.drewN m1).drewN m2) q:=⟨_,rfl⟩;have hS0:=ES.drawn (n:=q) (ES.drawn (n:=m2) (ES.drawn (n:=m1) HS.out));rw [<-hwe] at hS0⊢;clear HS hwe;have O2:=zz hS0;clear hS0;go_wp2_with fail
  refine (Xm we gb 2 [oN,sN] 3 Ds.out (O2.out.f4 gb rfl) (by simp)).mono ?_;intro e w4 hO;obtain ⟨a5,c5,he,hS1⟩:=O2.out.s5 hO;have he:e= .returned (.slice a5 ln c5):=by rw [E4.out];exact he
  subst he;have HS:=zz hS1;clear hS1 hO O2;go_wp2_with fail
  (try refine ⟨HS.out.kp,?_⟩)
  refine Ji (λm3=>?_);refine Zm ?_;refine Q4 rfl rfl (λq=>?_);obtain ⟨we,hwe⟩: ∃W,W=World.drewN (w4.drewN m3) q:=⟨_,rfl⟩;have hS0:=ES.drawn (n:=q) (ES.drawn (n:=m3) HS.out);rw [<-hwe] at hS0⊢;clear HS hwe;obtain ⟨kc,w5,hcv,k6,hs6,Bk,_⟩:=Vc r.key we;have hS1:=hS0.s8 (c:=kc) k6 Bk;obtain ⟨cb,hcb⟩: ∃e,e=we.heap.size:=⟨_,rfl⟩;rw [<-hcb] at hcv hS1;have N7:=zz hcv;have HS:=zz hS1;clear hcv k6 hs6 Bk hcb hS1 hS0;go_wp2_with fail
  rw [N7.out];simp only [Result.andThen_ok];go_wp2_with fail
  (try refine ⟨HS.out.kp,?_⟩)
  rotate_left;refine Q4 rfl rfl (λq=>?_);obtain ⟨we,hwe⟩: ∃W,W=World.drewN ((w3.drewN m1).drewN m2) q:=⟨_,rfl⟩;have hS0:=ES.drawn (n:=q) (ES.drawn (n:=m2) (ES.drawn (n:=m1) HS.out));rw [<-hwe] at hS0⊢;clear HS hwe;obtain ⟨kc,w4,hcv,k6,hs6,Bk,_⟩:=Vc r.key we;have hS1:=hS0.s8 (c:=kc) k6 Bk;obtain ⟨cb,hcb⟩: ∃e,e=we.heap.size:=⟨_,rfl⟩;rw [<-hcb] at hcv hS1;have N7:=zz hcv;have HS:=zz hS1;clear hcv k6 hs6 Bk hcb hS1 hS0;go_wp2_with fail
  rw [N7.out];simp only [Result.andThen_ok];go_wp2_with fail
  (try refine ⟨HS.out.kp,?_⟩)
  refine Ji (λm3=>?_);refine Zm ?_;refine Q4 rfl rfl (λq=>?_);obtain ⟨we,hwe⟩: ∃W,W=World.drewN (w4.drewN m3) q:=⟨_,rfl⟩;have hS0:=ES.drawn (n:=q) (ES.drawn (n:=m3) HS.out);rw [<-hwe] at hS0⊢;clear HS hwe;have O2:=zz hS0;clear hS0;go_wp2_with fail
  refine (Xm we gb 2 [oN,sN] 3 Ds.out (O2.out.f4 gb rfl) (by simp)).mono ?_;intro e w5 hO;obtain ⟨a5,c5,he,hS1⟩:=O2.out.s5 hO;have he:e= .returned (.slice a5 ln c5):=by rw [E4.out];exact he
  subst he;have HS:=zz hS1;clear hS1 hO O2;go_wp2_with fail
  (try refine ⟨HS.out.kp,?_⟩)
  rotate_left;refine Q4 rfl rfl (λq=>?_);obtain ⟨we,hwe⟩: ∃W,W=World.drewN (w2.drewN m0) q:=⟨_,rfl⟩;have hS0:=ES.drawn (n:=q) (ES.drawn (n:=m0) HS.out);rw [<-hwe] at hS0⊢;clear HS hwe;obtain ⟨kc,w3,hcv,k6,hs6,Bk,_⟩:=Vc r.key we;have hS1:=hS0.s8 (c:=kc) k6 Bk;obtain ⟨cb,hcb⟩: ∃e,e=we.heap.size:=⟨_,rfl⟩;rw [<-hcb] at hcv hS1;have N7:=zz hcv;have HS:=zz hS1;clear hcv k6 hs6 Bk hcb hS1 hS0;go_wp2_with fail
  rw [N7.out];simp only [Result.andThen_ok];go_wp2_with fail
  (try refine ⟨HS.out.kp,?_⟩)
  refine Ji (λm1=>?_);refine Zm ?_;refine Q4 rfl rfl (λq=>?_);obtain ⟨we,hwe⟩: ∃W,W=World.drewN (w3.drewN m1) q:=⟨_,rfl⟩;have hS0:=ES.drawn (n:=q) (ES.drawn (n:=m1) HS.out);rw [<-hwe] at hS0⊢;clear HS hwe;go_wp2_with fail
  obtain ⟨w4,hV⟩: ∃V,V=we.alloc (.cells #[.int .i64 (oN:Int), .int .i64 (sN:Int)] 3):=⟨_,rfl⟩;obtain ⟨gb,hgb⟩: ∃e,e=we.heap.size:=⟨_,rfl⟩;have hS1:=hS0.s4 hV hgb;have HS:=zz hS1;rw [<-hV,<-hgb];clear hV hgb hS1 hS0;refine ⟨HS.out.kp,?_⟩;refine Q4 rfl rfl (λq=>?_);obtain ⟨we,hwe⟩: ∃W,W=World.drewN w4 q:=⟨_,rfl⟩;have hS0:=ES.drawn (n:=q) (HS.out);rw [<-hwe] at hS0⊢;clear HS hwe;have O2:=zz hS0;clear hS0;go_wp2_with fail
  refine (Xm we gb 2 [oN,sN] 3 Ds.out (O2.out.f4 gb rfl) (by simp)).mono ?_;intro e w5 hO;obtain ⟨a5,c5,he,hS1⟩:=O2.out.s5 hO;have he:e= .returned (.slice a5 ln c5):=by rw [E4.out];exact he
  subst he;have HS:=zz hS1;clear hS1 hO O2;go_wp2_with fail
  (try refine ⟨HS.out.kp,?_⟩)
  all_goals
   refine Q4 rfl rfl (λq=>?_);obtain ⟨we,hwe⟩: ∃W,W=World.drewN w5 q:=⟨_,rfl⟩;have hS0:=ES.drawn (n:=q) (HS.out);rw [<-hwe] at hS0⊢;clear HS hwe;have O2:=zz hS0;clear hS0;go_wp2_with fail
   refine (Eg we (some ⟨cb,0,none⟩) kc r.key.data.toList (O2.out.f8 _ rfl) Qjs.out).mono ?_;rintro e w6 ⟨a9,c9,rfl,Qbx,Qqm,hk9⟩;have hS1:=O2.out.no hk9;obtain ⟨l9,Qgk⟩: ∃l,l=(Jg r.key.data.toList).length:=⟨_,rfl⟩;rw [<-Qgk] at Qbx Qqm⊢;have Qjz:=zz (And.intro Qgk (And.intro Qbx Qqm));clear O2 Qbx Qqm Qgk hk9;have HS:=zz hS1;clear hS1;go_wp2_with fail
   (try refine ⟨HS.out.kp,?_⟩)
   refine Q4 rfl rfl (λq2=>?_);obtain ⟨w7,hw7⟩: ∃W,W=w6.drewN q2:=⟨_,rfl⟩;have Qc2:Kp No w6 w7:=by rw [hw7];exact (Kp.refl No w6).drewN q2
   have hS7:=HS.out.no Qc2;have hlk:=Vy Qjs.out
   have Qpx:Mer.Own w7 5 1 (.slice a5 ln c5) ([oN,sN].flatMap Ql).length (u8s ([oN,sN].flatMap Ql))/\ ∀g,(Value.slice a5 ln c5).ownBlock=some g->w2.heap.size<=g:=by
    have:=hS7.f5 _ rfl;rw [<-E4.out] at this⊢;exact this
   obtain ⟨aA,cA,wA,h1,h2,h3,h4⟩:=Zq w2 w7 (.slice a5 ln c5) ([oN,sN].flatMap Ql) (Jg r.key.data.toList) Qpx.1 Qpx.2 hS7.kp a9 c9 (by
    have h5:=Qjz.out.2.1;rw [Qjz.out.1] at h5;exact Rd.kp (Own.rd' h5) Qc2) (by have:=E4.out;have:=Qxr.out;have:=Qjs.out;omega)
   obtain ⟨X1,hX1⟩: ∃X,X=[oN,sN].flatMap Ql++Jg r.key.data.toList:=⟨_,rfl⟩;rw [<-hX1] at h1 h2 h3;rw [<-Qjz.out.1] at h1;obtain ⟨l1,hl1⟩: ∃l,l=X1.length:=⟨_,rfl⟩;rw [<-hl1] at h1 h2 h3
   have Ky:=zz (And.intro hX1 (And.intro hl1 (show l1<=200 from by
    have h5:=congrArg List.length hX1;rw [List.length_append] at h5;have:=E4.out;have:=Qxr.out;have:=Qtc.out;omega)))
   have Q7c:=zz h1;have Qk0:=zz (And.intro h2 (And.intro h3 h4));rw [<-hw7];clear hw7 Qc2 hS7 hlk Qpx h1 h2 h3 h4 hX1 hl1 HS Qjz;refine wpList_append_run rfl rfl rfl rfl Q7c.out ?_;refine wpList_nil ?_;refine ⟨rfl,Qk0.out.2.2,?_⟩;clear Q7c;repeat (first|refine zA ?_|refine zB ?_|refine zC ?_)
   refine Q6 (λnq=>?_);obtain ⟨wB,hwB⟩: ∃W,W=wA.drewN nq:=⟨_,rfl⟩;have I7:Kp No wA wB:=by rw [hwB];exact (Kp.refl No wA).drewN nq
   have Qri:=Qk0.out.2.2.trans_same I7;have bB:=Qri.get HB2.out λx=>x;have g3:wB.cell? ⟨b,3,none⟩=some (.int .i64 (mN:Int)):=(Q0 bB 3).trans (by rw [<-HN.out.2.2.1];rfl);have g4:wB.cell? ⟨b,4,none⟩=some (.int .i64 (cN:Int)):=(Q0 bB 4).trans (by rw [<-HN.out.2.2.2.1];rfl);have g8:wB.cell? ⟨b,8,none⟩=some (.int .i64 (tN:Int)):=(Q0 bB 8).trans (by rw [<-HN.out.2.2.2.2];rfl);have hlB:=Q3 bB;obtain ⟨wC,Q4y⟩: ∃W,W=wB.alloc (.cells #[.int .i64 (mN:Int), .int .i64 (cN:Int), .int .i64 1, .int .i64 (tN:Int)] 3):=⟨_,rfl⟩;have Q54:Kp No wB wC:=by rw [Q4y];exact (Kp.refl No wB).alloc _
   obtain ⟨gC,Qqn⟩: ∃g,g=wB.heap.size:=⟨_,rfl⟩
   have hnu:=Xm wC gC 4 [mN,cN,1,tN] 3 (λn hn=>by
    have:=Cj.out;simp only [List.mem_cons,List.not_mem_nil,or_false] at hn;rcases hn with rfl|rfl|rfl|rfl<;>omega) (by rw [Q4y,Qqn];exact heap_alloc_new wB _) (by simp)
   have Dt:=zz hnu;have Qjc:=zz (And.intro Q4y Qqn);have Q1y:=zz (Qri.trans_same Q54);have Qto:=zz ((Qk0.out.1.keep I7 λ_ _ x=>x).keep Q54 λ_ _ x=>x);rw [<-hwB];clear hwB I7 Qri bB Q4y Q54 Qqn hnu;go_wp2_with fail
   rw [<-Qjc.out.1,<-Qjc.out.2];refine Dt.out.mono ?_;rintro e wD ⟨aD,cD,rfl,Qr1,Qvi,kD⟩;obtain ⟨F4,Qbw⟩: ∃F,F=[mN,cN,1,tN].flatMap Ql:=⟨_,rfl⟩;rw [<-Qbw] at Qr1 Qvi⊢
   have hl4:F4.length<=36:=by
    have h1:=Qm (n:=mN) (by have:=Cj.out;omega);have h2:=Qm (n:=cN) (by have:=Cj.out;omega);have h3:=Qm (n:=1) (by omega);have h4:=Qm (n:=tN) (by have:=Cj.out;omega);rw [Qbw];simp only [List.flatMap_cons,List.flatMap_nil,List.append_nil,List.length_append];omega
   obtain ⟨aE,cE,wE,h1,h2,h3,h4⟩:=Zq w2 wD (.slice aA l1 cA) X1 F4 (by
    have:=Qto.out.keep kD λ_ _ x=>x;rw [<-Ky.out.2.1];exact this) Qk0.out.2.1 (Q1y.out.trans_same kD) aD cD (Own.rd' Qr1) (by have:=Ky.out.2.1;have:=Ky.out.2.2;omega)
   obtain ⟨X2,hX2⟩: ∃X,X=X1++F4:=⟨_,rfl⟩;rw [<-hX2] at h1 h2 h3;obtain ⟨l2,Q8a⟩: ∃l,l=X2.length:=⟨_,rfl⟩;rw [<-Q8a] at h1 h2 h3;obtain ⟨l4,Qgi⟩: ∃l,l=F4.length:=⟨_,rfl⟩;rw [<-Qgi] at h1⊢
   have Q3l:=zz (And.intro hX2 (And.intro Q8a (And.intro Qbw (show l2<=300 from by
    have h5:=congrArg List.length hX2;rw [List.length_append] at h5;have:=Ky.out.2.1;have:=Ky.out.2.2;omega))))
   have Qdr:=zz h1;have Qp6:=zz (And.intro h2 (And.intro h3 h4));have bE:=h4.get HB2.out λx=>x;have g6:wE.cell? ⟨b,6,none⟩=some (.slice a r.v.val.length cap):=Q0 bE 6;have J1g:=Q3 bE;have Qjq:=zz (Eg wE a cap r.v.val (Rd.kp M8.out h4) (by have:=HP.out.vl;omega));clear Qr1 Qvi kD Qbw hl4 h1 h2 h3 h4 hX2 Q8a Qgi bE Dt Qjc Q1y Qto g3 g4 g8 hlB;go_wp2_with (at_builtin;refine wpList_append_run rfl rfl rfl rfl Qdr.out ?_;clear Qdr)
   refine Qjq.out.mono ?_;rintro e wF ⟨aF,cF,rfl,Qr2,Qvj,kF⟩;obtain ⟨F5,Qky⟩: ∃F,F=Jg r.v.val:=⟨_,rfl⟩;rw [<-Qky] at Qr2 Qvj⊢
   have hl5:F5.length<=2000:=by
    have h1:=Vy (p:=r.v.val) (by have:=HP.out.vl;omega);have:=HP.out.vl;rw [Qky];omega
   obtain ⟨aG,cG,wG,h1,h2,h3,h4⟩:=Zq w2 wF (.slice aE l2 cE) X2 F5 (by
    have:=Qp6.out.1.keep kF λ_ _ x=>x;rw [<-Q3l.out.2.1];exact this) Qp6.out.2.1 (Qp6.out.2.2.trans_same kF) aF cF (Own.rd' Qr2) (by have:=Q3l.out.2.1;have:=Q3l.out.2.2.2;omega)
   have hall:X2++F5=U6 r:=by
    rw [Q3l.out.1,Ky.out.1,Q3l.out.2.2.1,Qky];unfold U6;rw [HN.out.1,HN.out.2.1,HN.out.2.2.1,HN.out.2.2.2.1,HN.out.2.2.2.2,Q3i.out];simp only [List.flatMap_cons,List.flatMap_nil,List.append_nil,List.append_assoc,Int.toNat_natCast]
   rw [hall] at h1 h2 h3;obtain ⟨l5,Qgj⟩: ∃l,l=F5.length:=⟨_,rfl⟩;rw [<-Qgj] at h1⊢;have Qk1:=zz h1;have Qp7:=zz (And.intro h2 (And.intro h3 h4));obtain ⟨lr,hlr⟩: ∃l,l=(U6 r).length:=⟨_,rfl⟩;rw [<-hlr] at Qk1;have Q79:=zz hlr;clear Qr2 Qvj kF Qky hl5 hall h1 h2 h3 h4 Qgj Qjq g6 J1g hlr;go_wp2_with (at_builtin;refine wpList_append_run rfl rfl rfl rfl Qk1.out ?_;clear Qk1)
   go_ret2
   rw [Q79.out];have hk2:=Qz.out.size;exact ⟨aG,cG,rfl,Qp7.out.1,λg hg=>Nat.le_trans hk2 (Qp7.out.2.1 g hg),Qz.out.trans_same Qp7.out.2.2⟩
 ·have Q3i:=zz (show Mk r.v.gone=0 from by rw [hg];rfl);have HG:=zz hg;clear hg;go_enter Tryz.func120,Tryz.ntmps120
  go_upto_region 1 with fail
  rw [<-HW1.out,<-Hu.out];go_wp2_with (refine Qe rfl 46 _ rfl b 0 rfl _ _ R1 Tryz.underlying46 rfl (by kernel_rfl) ?_)
  refine HIS.out.mono ?_;rintro e w2 ⟨rfl,k2⟩;have HB2:=zz (k2.get HB1.out λx=>x);have Qz:=zz (U8.out.trans_same k2);have M8:=zz (Rd.kp Q7d.out Qz.out);have d7:w2.cell? ⟨b,7,none⟩=some (.bool false):=by rw [<-HG.out];exact Q0 HB2.out 7
  have hl2:=Q3 HB2.out;clear k2;go_upto_region 6 with fail
  have HS:=zz (ES.start w2 oN sN r.key);have e0: ∀W,Kp No w2 W->W.cell? ⟨b,0,none⟩=some (.int .i64 (oN:Int)):=λW hW=>(Q0 (hW.get HB2.out λx=>x) 0).trans (by rw [<-HN.out.1];rfl);have e1: ∀W,Kp No w2 W->W.cell? ⟨b,1,none⟩=some (.int .i64 (sN:Int)):=λW hW=>(Q0 (hW.get HB2.out λx=>x) 1).trans (by rw [<-HN.out.2.1];rfl);have e2: ∀W,Kp No w2 W->W.cell? ⟨b,2,none⟩=some (.string r.key):=λW hW=>Q0 (hW.get HB2.out λx=>x) 2;clear d7;refine Ef (Kp No w2) [0,0,0,0,2,2,0,0,2,2,2,0] (.fork [0,1,2,3,6,7] 4 8 (.fork [] 5 8 (.leaf [8,9,10,11]) (.leaf [5,9,10,11])) (.leaf [4,5,9,10,11])) (by kernel_rfl) (by kernel_rfl) (λ_ n h=>h.drewN n) zK ?_;refine Xl ?_;repeat (first|refine zA ?_|refine zB ?_|refine zC ?_)
  refine Xk (λn=>zK.drewN n) (λm0=>?_) (λm0=>?_);refine Q4 rfl rfl (λq=>?_);obtain ⟨we,hwe⟩: ∃W,W=World.drewN (w2.drewN m0) q:=⟨_,rfl⟩;have hS0:=ES.drawn (n:=q) (ES.drawn (n:=m0) HS.out);rw [<-hwe] at hS0⊢;clear HS hwe;go_wp2_with fail
  obtain ⟨w3,hV⟩: ∃V,V=we.alloc (.cells #[.int .i64 (oN:Int), .int .i64 (sN:Int)] 3):=⟨_,rfl⟩;obtain ⟨gb,hgb⟩: ∃e,e=we.heap.size:=⟨_,rfl⟩;have hS1:=hS0.s4 hV hgb;have HS:=zz hS1;rw [<-hV,<-hgb];clear hV hgb hS1 hS0;refine ⟨HS.out.kp,?_⟩;refine Ji (λm1=>?_);refine Xl ?_;refine Xk (λn=>(HS.out.kp.drewN m1).drewN n) (λm2=>?_) (λm2=>?_);refine Q4 rfl rfl (λq=>?_);obtain ⟨we,hwe⟩: ∃W,W=World.drewN ((w3.drewN m1).drewN m2) q:=⟨_,rfl⟩;have hS0:=ES.drawn (n:=q) (ES.drawn (n:=m2) (ES.drawn (n:=m1) HS.out));rw [<-hwe] at hS0⊢;clear HS hwe;have O2:=zz hS0;clear hS0;go_wp2_with fail
  refine (Xm we gb 2 [oN,sN] 3 Ds.out (O2.out.f4 gb rfl) (by simp)).mono ?_;intro e w4 hO;obtain ⟨a5,c5,he,hS1⟩:=O2.out.s5 hO;have he:e= .returned (.slice a5 ln c5):=by rw [E4.out];exact he
  subst he;have HS:=zz hS1;clear hS1 hO O2;go_wp2_with fail
  (try refine ⟨HS.out.kp,?_⟩)
  refine Ji (λm3=>?_);refine Zm ?_;refine Q4 rfl rfl (λq=>?_);obtain ⟨we,hwe⟩: ∃W,W=World.drewN (w4.drewN m3) q:=⟨_,rfl⟩;have hS0:=ES.drawn (n:=q) (ES.drawn (n:=m3) HS.out);rw [<-hwe] at hS0⊢;clear HS hwe;obtain ⟨kc,w5,hcv,k6,hs6,Bk,_⟩:=Vc r.key we;have hS1:=hS0.s8 (c:=kc) k6 Bk;obtain ⟨cb,hcb⟩: ∃e,e=we.heap.size:=⟨_,rfl⟩;rw [<-hcb] at hcv hS1;have N7:=zz hcv;have HS:=zz hS1;clear hcv k6 hs6 Bk hcb hS1 hS0;go_wp2_with fail
  rw [N7.out];simp only [Result.andThen_ok];go_wp2_with fail
  (try refine ⟨HS.out.kp,?_⟩)
  rotate_left;refine Q4 rfl rfl (λq=>?_);obtain ⟨we,hwe⟩: ∃W,W=World.drewN ((w3.drewN m1).drewN m2) q:=⟨_,rfl⟩;have hS0:=ES.drawn (n:=q) (ES.drawn (n:=m2) (ES.drawn (n:=m1) HS.out));rw [<-hwe] at hS0⊢;clear HS hwe;obtain ⟨kc,w4,hcv,k6,hs6,Bk,_⟩:=Vc r.key we;have hS1:=hS0.s8 (c:=kc) k6 Bk;obtain ⟨cb,hcb⟩: ∃e,e=we.heap.size:=⟨_,rfl⟩;rw [<-hcb] at hcv hS1;have N7:=zz hcv;have HS:=zz hS1;clear hcv k6 hs6 Bk hcb hS1 hS0;go_wp2_with fail
  rw [N7.out];simp only [Result.andThen_ok];go_wp2_with fail
  (try refine ⟨HS.out.kp,?_⟩)
  refine Ji (λm3=>?_);refine Zm ?_;refine Q4 rfl rfl (λq=>?_);obtain ⟨we,hwe⟩: ∃W,W=World.drewN (w4.drewN m3) q:=⟨_,rfl⟩;have hS0:=ES.drawn (n:=q) (ES.drawn (n:=m3) HS.out);rw [<-hwe] at hS0⊢;clear HS hwe;have O2:=zz hS0;clear hS0;go_wp2_with fail
  refine (Xm we gb 2 [oN,sN] 3 Ds.out (O2.out.f4 gb rfl) (by simp)).mono ?_;intro e w5 hO;obtain ⟨a5,c5,he,hS1⟩:=O2.out.s5 hO;have he:e= .returned (.slice a5 ln c5):=by rw [E4.out];exact he
  subst he;have HS:=zz hS1;clear hS1 hO O2;go_wp2_with fail
  (try refine ⟨HS.out.kp,?_⟩)
  rotate_left;refine Q4 rfl rfl (λq=>?_);obtain ⟨we,hwe⟩: ∃W,W=World.drewN (w2.drewN m0) q:=⟨_,rfl⟩;have hS0:=ES.drawn (n:=q) (ES.drawn (n:=m0) HS.out);rw [<-hwe] at hS0⊢;clear HS hwe;obtain ⟨kc,w3,hcv,k6,hs6,Bk,_⟩:=Vc r.key we;have hS1:=hS0.s8 (c:=kc) k6 Bk;obtain ⟨cb,hcb⟩: ∃e,e=we.heap.size:=⟨_,rfl⟩;rw [<-hcb] at hcv hS1;have N7:=zz hcv;have HS:=zz hS1;clear hcv k6 hs6 Bk hcb hS1 hS0;go_wp2_with fail
  rw [N7.out];simp only [Result.andThen_ok];go_wp2_with fail
  (try refine ⟨HS.out.kp,?_⟩)
  refine Ji (λm1=>?_);refine Zm ?_;refine Q4 rfl rfl (λq=>?_);obtain ⟨we,hwe⟩: ∃W,W=World.drewN (w3.drewN m1) q:=⟨_,rfl⟩;have hS0:=ES.drawn (n:=q) (ES.drawn (n:=m1) HS.out);rw [<-hwe] at hS0⊢;clear HS hwe;go_wp2_with fail
  obtain ⟨w4,hV⟩: ∃V,V=we.alloc (.cells #[.int .i64 (oN:Int), .int .i64 (sN:Int)] 3):=⟨_,rfl⟩;obtain ⟨gb,hgb⟩: ∃e,e=we.heap.size:=⟨_,rfl⟩;have hS1:=hS0.s4 hV hgb;have HS:=zz hS1;rw [<-hV,<-hgb];clear hV hgb hS1 hS0;refine ⟨HS.out.kp,?_⟩;refine Q4 rfl rfl (λq=>?_);obtain ⟨we,hwe⟩: ∃W,W=World.drewN w4 q:=⟨_,rfl⟩;have hS0:=ES.drawn (n:=q) (HS.out);rw [<-hwe] at hS0⊢;clear HS hwe;have O2:=zz hS0;clear hS0;go_wp2_with fail
  refine (Xm we gb 2 [oN,sN] 3 Ds.out (O2.out.f4 gb rfl) (by simp)).mono ?_;intro e w5 hO;obtain ⟨a5,c5,he,hS1⟩:=O2.out.s5 hO;have he:e= .returned (.slice a5 ln c5):=by rw [E4.out];exact he
  subst he;have HS:=zz hS1;clear hS1 hO O2;go_wp2_with fail
  (try refine ⟨HS.out.kp,?_⟩)
  all_goals
   refine Q4 rfl rfl (λq=>?_);obtain ⟨we,hwe⟩: ∃W,W=World.drewN w5 q:=⟨_,rfl⟩;have hS0:=ES.drawn (n:=q) (HS.out);rw [<-hwe] at hS0⊢;clear HS hwe;have O2:=zz hS0;clear hS0;go_wp2_with fail
   refine (Eg we (some ⟨cb,0,none⟩) kc r.key.data.toList (O2.out.f8 _ rfl) Qjs.out).mono ?_;rintro e w6 ⟨a9,c9,rfl,Qbx,Qqm,hk9⟩;have hS1:=O2.out.no hk9;obtain ⟨l9,Qgk⟩: ∃l,l=(Jg r.key.data.toList).length:=⟨_,rfl⟩;rw [<-Qgk] at Qbx Qqm⊢;have Qjz:=zz (And.intro Qgk (And.intro Qbx Qqm));clear O2 Qbx Qqm Qgk hk9;have HS:=zz hS1;clear hS1;go_wp2_with fail
   (try refine ⟨HS.out.kp,?_⟩)
   refine Q4 rfl rfl (λq2=>?_);obtain ⟨w7,hw7⟩: ∃W,W=w6.drewN q2:=⟨_,rfl⟩;have Qc2:Kp No w6 w7:=by rw [hw7];exact (Kp.refl No w6).drewN q2
   have hS7:=HS.out.no Qc2;have hlk:=Vy Qjs.out
   have Qpx:Mer.Own w7 5 1 (.slice a5 ln c5) ([oN,sN].flatMap Ql).length (u8s ([oN,sN].flatMap Ql))/\ ∀g,(Value.slice a5 ln c5).ownBlock=some g->w2.heap.size<=g:=by
    have:=hS7.f5 _ rfl;rw [<-E4.out] at this⊢;exact this
   obtain ⟨aA,cA,wA,h1,h2,h3,h4⟩:=Zq w2 w7 (.slice a5 ln c5) ([oN,sN].flatMap Ql) (Jg r.key.data.toList) Qpx.1 Qpx.2 hS7.kp a9 c9 (by
    have h5:=Qjz.out.2.1;rw [Qjz.out.1] at h5;exact Rd.kp (Own.rd' h5) Qc2) (by have:=E4.out;have:=Qxr.out;have:=Qjs.out;omega)
   obtain ⟨X1,hX1⟩: ∃X,X=[oN,sN].flatMap Ql++Jg r.key.data.toList:=⟨_,rfl⟩;rw [<-hX1] at h1 h2 h3;rw [<-Qjz.out.1] at h1;obtain ⟨l1,hl1⟩: ∃l,l=X1.length:=⟨_,rfl⟩;rw [<-hl1] at h1 h2 h3
   have Ky:=zz (And.intro hX1 (And.intro hl1 (show l1<=200 from by
    have h5:=congrArg List.length hX1;rw [List.length_append] at h5;have:=E4.out;have:=Qxr.out;have:=Qtc.out;omega)))
   have Q7c:=zz h1;have Qk0:=zz (And.intro h2 (And.intro h3 h4));rw [<-hw7];clear hw7 Qc2 hS7 hlk Qpx h1 h2 h3 h4 hX1 hl1 HS Qjz;refine wpList_append_run rfl rfl rfl rfl Q7c.out ?_;refine wpList_nil ?_;refine ⟨rfl,Qk0.out.2.2,?_⟩;clear Q7c;repeat (first|refine zA ?_|refine zB ?_|refine zC ?_)
   refine Q6 (λnq=>?_);obtain ⟨wB,hwB⟩: ∃W,W=wA.drewN nq:=⟨_,rfl⟩;have I7:Kp No wA wB:=by rw [hwB];exact (Kp.refl No wA).drewN nq
   have Qri:=Qk0.out.2.2.trans_same I7;have bB:=Qri.get HB2.out λx=>x;have g3:wB.cell? ⟨b,3,none⟩=some (.int .i64 (mN:Int)):=(Q0 bB 3).trans (by rw [<-HN.out.2.2.1];rfl);have g4:wB.cell? ⟨b,4,none⟩=some (.int .i64 (cN:Int)):=(Q0 bB 4).trans (by rw [<-HN.out.2.2.2.1];rfl);have g8:wB.cell? ⟨b,8,none⟩=some (.int .i64 (tN:Int)):=(Q0 bB 8).trans (by rw [<-HN.out.2.2.2.2];rfl);have hlB:=Q3 bB;obtain ⟨wC,Q4y⟩: ∃W,W=wB.alloc (.cells #[.int .i64 (mN:Int), .int .i64 (cN:Int), .int .i64 0, .int .i64 (tN:Int)] 3):=⟨_,rfl⟩;have Q54:Kp No wB wC:=by rw [Q4y];exact (Kp.refl No wB).alloc _
   obtain ⟨gC,Qqn⟩: ∃g,g=wB.heap.size:=⟨_,rfl⟩
   have hnu:=Xm wC gC 4 [mN,cN,0,tN] 3 (λn hn=>by
    have:=Cj.out;simp only [List.mem_cons,List.not_mem_nil,or_false] at hn;rcases hn with rfl|rfl|rfl|rfl<;>omega) (by rw [Q4y,Qqn];exact heap_alloc_new wB _) (by simp)
   have Dt:=zz hnu;have Qjc:=zz (And.intro Q4y Qqn);have Q1y:=zz (Qri.trans_same Q54);have Qto:=zz ((Qk0.out.1.keep I7 λ_ _ x=>x).keep Q54 λ_ _ x=>x);rw [<-hwB];clear hwB I7 Qri bB Q4y Q54 Qqn hnu;go_wp2_with fail
   rw [<-Qjc.out.1,<-Qjc.out.2];refine Dt.out.mono ?_;rintro e wD ⟨aD,cD,rfl,Qr1,Qvi,kD⟩;obtain ⟨F4,Qbw⟩: ∃F,F=[mN,cN,0,tN].flatMap Ql:=⟨_,rfl⟩;rw [<-Qbw] at Qr1 Qvi⊢
   have hl4:F4.length<=36:=by
    have h1:=Qm (n:=mN) (by have:=Cj.out;omega);have h2:=Qm (n:=cN) (by have:=Cj.out;omega);have h3:=Qm (n:=0) (by omega);have h4:=Qm (n:=tN) (by have:=Cj.out;omega);rw [Qbw];simp only [List.flatMap_cons,List.flatMap_nil,List.append_nil,List.length_append];omega
   obtain ⟨aE,cE,wE,h1,h2,h3,h4⟩:=Zq w2 wD (.slice aA l1 cA) X1 F4 (by
    have:=Qto.out.keep kD λ_ _ x=>x;rw [<-Ky.out.2.1];exact this) Qk0.out.2.1 (Q1y.out.trans_same kD) aD cD (Own.rd' Qr1) (by have:=Ky.out.2.1;have:=Ky.out.2.2;omega)
   obtain ⟨X2,hX2⟩: ∃X,X=X1++F4:=⟨_,rfl⟩;rw [<-hX2] at h1 h2 h3;obtain ⟨l2,Q8a⟩: ∃l,l=X2.length:=⟨_,rfl⟩;rw [<-Q8a] at h1 h2 h3;obtain ⟨l4,Qgi⟩: ∃l,l=F4.length:=⟨_,rfl⟩;rw [<-Qgi] at h1⊢
   have Q3l:=zz (And.intro hX2 (And.intro Q8a (And.intro Qbw (show l2<=300 from by
    have h5:=congrArg List.length hX2;rw [List.length_append] at h5;have:=Ky.out.2.1;have:=Ky.out.2.2;omega))))
   have Qdr:=zz h1;have Qp6:=zz (And.intro h2 (And.intro h3 h4));have bE:=h4.get HB2.out λx=>x;have g6:wE.cell? ⟨b,6,none⟩=some (.slice a r.v.val.length cap):=Q0 bE 6;have J1g:=Q3 bE;have Qjq:=zz (Eg wE a cap r.v.val (Rd.kp M8.out h4) (by have:=HP.out.vl;omega));clear Qr1 Qvi kD Qbw hl4 h1 h2 h3 h4 hX2 Q8a Qgi bE Dt Qjc Q1y Qto g3 g4 g8 hlB;go_wp2_with (at_builtin;refine wpList_append_run rfl rfl rfl rfl Qdr.out ?_;clear Qdr)
   refine Qjq.out.mono ?_;rintro e wF ⟨aF,cF,rfl,Qr2,Qvj,kF⟩;obtain ⟨F5,Qky⟩: ∃F,F=Jg r.v.val:=⟨_,rfl⟩;rw [<-Qky] at Qr2 Qvj⊢
   have hl5:F5.length<=2000:=by
    have h1:=Vy (p:=r.v.val) (by have:=HP.out.vl;omega);have:=HP.out.vl;rw [Qky];omega
   obtain ⟨aG,cG,wG,h1,h2,h3,h4⟩:=Zq w2 wF (.slice aE l2 cE) X2 F5 (by
    have:=Qp6.out.1.keep kF λ_ _ x=>x;rw [<-Q3l.out.2.1];exact this) Qp6.out.2.1 (Qp6.out.2.2.trans_same kF) aF cF (Own.rd' Qr2) (by have:=Q3l.out.2.1;have:=Q3l.out.2.2.2;omega)
   have hall:X2++F5=U6 r:=by
    rw [Q3l.out.1,Ky.out.1,Q3l.out.2.2.1,Qky];unfold U6;rw [HN.out.1,HN.out.2.1,HN.out.2.2.1,HN.out.2.2.2.1,HN.out.2.2.2.2,Q3i.out];simp only [List.flatMap_cons,List.flatMap_nil,List.append_nil,List.append_assoc,Int.toNat_natCast]
   rw [hall] at h1 h2 h3;obtain ⟨l5,Qgj⟩: ∃l,l=F5.length:=⟨_,rfl⟩;rw [<-Qgj] at h1⊢;have Qk1:=zz h1;have Qp7:=zz (And.intro h2 (And.intro h3 h4));obtain ⟨lr,hlr⟩: ∃l,l=(U6 r).length:=⟨_,rfl⟩;rw [<-hlr] at Qk1;have Q79:=zz hlr;clear Qr2 Qvj kF Qky hl5 hall h1 h2 h3 h4 Qgj Qjq g6 J1g hlr;go_wp2_with (at_builtin;refine wpList_append_run rfl rfl rfl rfl Qk1.out ?_;clear Qk1)
   go_ret2
   rw [Q79.out];have hk2:=Qz.out.size;exact ⟨aG,cG,rfl,Qp7.out.1,λg hg=>Nat.le_trans hk2 (Qp7.out.2.1 g hg),Qz.out.trans_same Qp7.out.2.2⟩
end Go.Proofs.YtgnkmjeoaoongaaGreatDoor
