/- store -/
import Derived.Test.YtgnkmjeoaoongaaGreatDoorVd2
set_option maxRecDepth 100000
set_option maxHeartbeats 2000000
open List (length_map getElem?_eq_getElem getElem_mem)
namespace Go.Proofs.YtgnkmjeoaoongaaGreatDoor
open Go.RowKit Go.Mer
def Eo (w:World) (a:Option Addr) (Q:List Cy):Prop:=Rd w w.heap.size a (Q.flatMap Qa4)/\ ∀x∈Q,Rd w w.heap.size x.a (u8s x.val)
theorem Eo.kp {w w':World} {a:Option Addr} {Q:List Cy} (h:Eo w a Q) (hk:Kp No w w'):Eo w' a Q:=⟨Rd.kp h.1 hk,λx hx=>Rd.kp (h.2 x hx) hk⟩
theorem Eo.at_ {w:World} {a:Option Addr} {Q:List Cy} (h:Eo w a Q) {k:Nat} (hk:k<Q.length): ∃g off,a=some ⟨g,off,none⟩/\ ∀W,Kp No w W->g<W.heap.size/\W.cell? ⟨g,off+k*2,none⟩=some (.string Q[k].key)/\W.cell? ⟨g,off+k*2+1,none⟩=some Q[k].sl:=by
 obtain ⟨g,off,rfl,l0⟩:=Zb (f:=Qa4) Q5j (by decide) h.1 hk;exact ⟨g,off,rfl,λW hW=>⟨World.block_lt_of_cell? W _ (l0 W hW 0 _ rfl),l0 W hW 0 _ rfl,l0 W hW 1 _ rfl⟩⟩
theorem It (w:World) (a b:Option Addr) (c d:Nat) (Q1 Q2:List Cy) (h1:Eo w a Q1) (h2:Eo w b Q2) (he:Q1.map Cy.p=Q2.map Cy.p) (hn:Q1.length<=1000000) (hv: ∀x∈Q1,x.val.length<=1000000):
  Calls Tryz.prog 139 #[.slice a Q1.length c, .slice b Q2.length d] w λe w'=>e= .returned (.bool true)/\Kp No w w':=by
 obtain ⟨n,hn1⟩: ∃n,n=Q1.length:=⟨_,rfl⟩
 have hn2:n=Q2.length:=by
  have:=congrArg List.length he;rw [length_map,length_map] at this;omega
 rw [<-hn1,<-hn2];have hnb:n<=1000000:=by omega
 have H:=zz (And.intro h1 (And.intro h2 (And.intro he (And.intro hv (And.intro hn1 hn2)))));clear h1 h2 he hn hv hn1 hn2;go_enter Tryz.func139,Tryz.ntmps139
 go_wp2_with fail
 rename World=>w0;go_loopw [5] (λi wr=> ∃j:Nat,j<=n/\i= .int .i64 (j:Int)/\Hid (Kp No w0 wr)) (λi _=>n-(intOf i).toNat)
 case atStart=>exact ⟨0,Nat.zero_le _,rfl,zz zK⟩
 case round=>
  obtain ⟨j,hj,rfl,HK⟩:=hrel;rcases Nat.lt_or_ge j n with hlt|hge
  ·have hj1:j<Q1.length:=by rw [<-H.out.2.2.2.2.1];exact hlt
   have hj2:j<Q2.length:=by rw [<-H.out.2.2.2.2.2];exact hlt
   have h1:=H.out.1.kp HK.out;have h2:=H.out.2.1.kp HK.out;obtain ⟨g,off,rfl,hg⟩:=h1.at_ hj1;obtain ⟨g',off',rfl,hg'⟩:=h2.at_ hj2
   have hpe:Q1[j].p=Q2[j].p:=by
    have e:=congrArg (λl=>l[j]?) H.out.2.2.1;simp only [List.getElem?_map,getElem?_eq_getElem hj1,getElem?_eq_getElem hj2,Option.map_some] at e;exact Option.some.inj e
   have hv1:=H.out.2.2.2.1 _ (getElem_mem hj1);have r1:=h1.2 _ (getElem_mem hj1);have r2:=h2.2 _ (getElem_mem hj2);obtain ⟨x,hx⟩: ∃x,x=Q1[j]:=⟨_,rfl⟩;obtain ⟨y,hy⟩: ∃x,x=Q2[j]:=⟨_,rfl⟩;rw [<-hx] at hg hpe hv1 r1;rw [<-hy] at hg' hpe r2;have ek:x.key=y.key:=congrArg Prod.fst hpe;have ev:x.val=y.val:=congrArg Prod.snd hpe;obtain ⟨key,hkey⟩: ∃k,k=y.key:=⟨_,rfl⟩;obtain ⟨m,hm⟩: ∃k,k=y.val.length:=⟨_,rfl⟩;have d0: ∀W,Kp No wr W->W.cell? ⟨g,off+j*2,none⟩=some (.string key):=λW hW=>by rw [hkey,<-ek];exact (hg W hW).2.1
   have d1: ∀W,Kp No wr W->W.cell? ⟨g,off+j*2+1,none⟩=some (.slice x.a m x.cap):=λW hW=>by rw [hm,<-ev];exact (hg W hW).2.2
   have f0: ∀W,Kp No wr W->W.cell? ⟨g',off'+j*2,none⟩=some (.string key):=λW hW=>by rw [hkey];exact (hg' W hW).2.1
   have f1: ∀W,Kp No wr W->W.cell? ⟨g',off'+j*2+1,none⟩=some (.slice y.a m y.cap):=λW hW=>by rw [hm];exact (hg' W hW).2.2
   have hgl:=(hg wr zK).1;have Q4s:=(hg' wr zK).1;have hsm:=λq=>Iw x.a y.a x.cap y.cap _ _ x.val y.val (wr.drewN q) (r1.drewN q) (r2.drewN q) (by omega);rw [ev,<-hm] at hsm;have Qow:=zz hsm;have hkk:(key.toList==key.toList)=true:=beq_self_eq_true _;clear hg hg' hpe hv1 r1 r2 hx hy ek ev hkey hm hsm h1 h2 hj1 hj2;go_upto_region 6 with fail
   refine zD No [0,0,0,0,0,0,0,0,0,0,0,0,0,0,0,0,0,0,0,0,0,0,2,0,0] [0,1,2,3,4,5,6,7,8,9,10,11,12,13,14,15,16,17,18,19,20,21,22,23,24] ?_;repeat (first|refine zA ?_|refine zB ?_|refine zC ?_)
   refine Q8 rfl rfl (λn1=>?_);go_wp2_with fail
   refine (Qow.out n1).mono ?_;rintro e ws ⟨rfl,m1,rfl⟩;simp only [decide_true];go_wp2_with fail
   (try refine ⟨(Kp.refl No wr).drewN _,?_⟩)
   repeat (first|refine zA ?_|refine zB ?_|refine zC ?_)
   refine Qa (λnq=>?_);have Qd2:=zz (HK.out.Q0 ((Kp.refl No wr).drewN (n1+m1+nq)));clear d0 d1 f0 f1 hgl Q4s Qow;go_wp2_with fail
   go_roundw
   case rel=>exact ⟨j+1,hlt,by go_num,Qd2⟩
   case measure=>simp [intOf];omega
  ·obtain rfl:j=n:=by omega
   clear hge;go_wp2_with fail
   go_ret
   exact ⟨rfl,HK.out⟩
theorem Qn6 (W:World) (B:Nat) (a:Option Addr) (cap:Nat) (l:List UInt8) (hr:Rd W B a (u8s l)):(convert 42 9 (.slice a l.length cap)).run Tryz.prog W= .ok (.string ⟨l.toArray⟩) W:=by
 rcases l with _|⟨x,l⟩
 ·rw [run_convert_bytes_string W 42 9 5 a _ cap Tryz.underlying42 Tryz.underlying5 Tryz.underlying9];cases a<;>simp [Conv.bytesToString,loadCells]
  all_goals rfl
 ·obtain ⟨g,off,rfl,_,_,hc⟩:=hr (by simp [u8s])
  exact run_convert_bytes_back (P:=Tryz.prog) W 42 9 5 ⟨g,off,none⟩ cap (x::l) Tryz.underlying42 Tryz.underlying5 Tryz.underlying9 (λj hj=>by
   rw [Z8];exact hc j _ (by rw [Q9f,getElem?_eq_getElem hj];rfl))
theorem Qgx (w:World) (v:Qo) (a b:Option Addr) (c d:Nat) (hx:Qm.rd ⟨v,a,c⟩ w) (hy:Qm.rd ⟨v,b,d⟩ w):
  Calls Tryz.prog 137 #[.agg #[.int .i64 v.m, .int .i64 v.c, .int .i64 v.o, .slice a v.val.length c, .bool v.gone, .int .i64 v.ttl], .agg #[.int .i64 v.m, .int .i64 v.c, .int .i64 v.o, .slice b v.val.length d, .bool v.gone, .int .i64 v.ttl]] w λe w'=>e= .returned (.bool true)/\Kp No w w':=by
 obtain ⟨w1,hw1⟩: ∃W,W=w.alloc (.cells #[.int .i64 v.m, .int .i64 v.c, .int .i64 v.o, .slice a v.val.length c, .bool v.gone, .int .i64 v.ttl] 44):=⟨_,rfl⟩;obtain ⟨w2,hw2⟩: ∃W,W=w1.alloc (.cells #[.int .i64 v.m, .int .i64 v.c, .int .i64 v.o, .slice b v.val.length d, .bool v.gone, .int .i64 v.ttl] 44):=⟨_,rfl⟩;have k1:Kp No w w1:=by rw [hw1];exact zK.alloc _
 have k2:Kp No w1 w2:=by rw [hw2];exact zK.alloc _
 obtain ⟨p1,hp1⟩: ∃p,p=w.heap.size:=⟨_,rfl⟩;obtain ⟨p2,hp2⟩: ∃p,p=w1.heap.size:=⟨_,rfl⟩;have b1:=k2.get (show w1.heap[p1]?=some (.cells #[.int .i64 v.m, .int .i64 v.c, .int .i64 v.o, .slice a v.val.length c, .bool v.gone, .int .i64 v.ttl] 44 (0,0)) by rw [hw1,hp1];exact heap_alloc_new w _) λx=>x;have b2:w2.heap[p2]?=some (.cells #[.int .i64 v.m, .int .i64 v.c, .int .i64 v.o, .slice b v.val.length d, .bool v.gone, .int .i64 v.ttl] 44 (0,0)):=by rw [hw2,hp2];exact heap_alloc_new w1 _
 have s1:=Qn6 w2 _ a c v.val (Rd.kp (Rd.kp hx.1 k1) k2);have s2:=Qn6 w2 _ b d v.val (Rd.kp (Rd.kp hy.1 k1) k2);obtain ⟨X,hX⟩: ∃X:ByteArray,X=⟨v.val.toArray⟩:=⟨_,rfl⟩;obtain ⟨n,hn⟩: ∃n,n=v.val.length:=⟨_,rfl⟩;rw [<-hX,<-hn] at s1 s2;rw [<-hn] at b1 b2 hw1 hw2⊢;have c10:=Q4 b1 0;have c11:=Q4 b1 1;have c12:=Q4 b1 2;have c13:=Q4 b1 3;have c14:=Q4 b1 4;have c15:=Q4 b1 5;have c20:=Q4 b2 0;have c21:=Q4 b2 1;have J4b:=Q4 b2 2;have c23:=Q4 b2 3;have c24:=Q4 b2 4;have c25:=Q4 b2 5;simp at c10 c11 c12 c13 c14 c15 c20 c21 J4b c23 c24 c25
 have l1:=Q7 b1;have l2:=Q7 b2;have hmt:p1+1=p2:=by rw [hp1,hp2,hw1];simp
 have J5p:=zz hmt;have HW:=zz (And.intro hw1 (And.intro hw2 (And.intro hp1 hp2)));have HK:=zz (k1.Q0 k2);have Jj0:(X.toList==X.toList)=true:=beq_self_eq_true _;clear hx hy b1 b2 hw1 hw2 k1 k2 hmt hp1 hp2 hX hn;go_enter Tryz.func137,Tryz.ntmps137
 go_upto_region 1 with fail
 rw [<-HW.out.1,<-HW.out.2.2.1,J5p.out,<-HW.out.2.1];go_wp2_with fail
 go_ret
 exact ⟨rfl,HK.out⟩
theorem Qcc (w:World) (r:Qu) (a b:Option Addr) (c d:Nat) (hx:Qe.rd ⟨r,a,c⟩ w) (hy:Qe.rd ⟨r,b,d⟩ w):
  Calls Tryz.prog 85 #[.agg #[.int .i64 r.o, .int .i64 r.seq, .string r.key, .int .i64 r.v.m, .int .i64 r.v.c, .int .i64 r.v.o, .slice a r.v.val.length c, .bool r.v.gone, .int .i64 r.v.ttl], .agg #[.int .i64 r.o, .int .i64 r.seq, .string r.key, .int .i64 r.v.m, .int .i64 r.v.c, .int .i64 r.v.o, .slice b r.v.val.length d, .bool r.v.gone, .int .i64 r.v.ttl]] w λe w'=>e= .returned (.bool true)/\Kp No w w':=by
 obtain ⟨n,hn⟩: ∃n,n=r.v.val.length:=⟨_,rfl⟩;rw [<-hn];obtain ⟨w1,hw1⟩: ∃W,W=w.alloc (.cells #[.int .i64 r.o, .int .i64 r.seq, .string r.key, .int .i64 r.v.m, .int .i64 r.v.c, .int .i64 r.v.o, .slice a n c, .bool r.v.gone, .int .i64 r.v.ttl] 46):=⟨_,rfl⟩;obtain ⟨w2,hw2⟩: ∃W,W=w1.alloc (.cells #[.int .i64 r.o, .int .i64 r.seq, .string r.key, .int .i64 r.v.m, .int .i64 r.v.c, .int .i64 r.v.o, .slice b n d, .bool r.v.gone, .int .i64 r.v.ttl] 46):=⟨_,rfl⟩;have k1:Kp No w w1:=by rw [hw1];exact zK.alloc _
 have k2:Kp No w1 w2:=by rw [hw2];exact zK.alloc _
 obtain ⟨p1,hp1⟩: ∃p,p=w.heap.size:=⟨_,rfl⟩;obtain ⟨p2,hp2⟩: ∃p,p=w1.heap.size:=⟨_,rfl⟩;have b1:=k2.get (show w1.heap[p1]?=some (.cells #[.int .i64 r.o, .int .i64 r.seq, .string r.key, .int .i64 r.v.m, .int .i64 r.v.c, .int .i64 r.v.o, .slice a n c, .bool r.v.gone, .int .i64 r.v.ttl] 46 (0,0)) by rw [hw1,hp1];exact heap_alloc_new w _) λx=>x;have b2:w2.heap[p2]?=some (.cells #[.int .i64 r.o, .int .i64 r.seq, .string r.key, .int .i64 r.v.m, .int .i64 r.v.c, .int .i64 r.v.o, .slice b n d, .bool r.v.gone, .int .i64 r.v.ttl] 46 (0,0)):=by rw [hw2,hp2];exact heap_alloc_new w1 _
 have c10:=Q4 b1 0;have c11:=Q4 b1 1;have c12:=Q4 b1 2;have c13:=Q4 b1 3;have c14:=Q4 b1 4;have c15:=Q4 b1 5;have c16:=Q4 b1 6;have c17:=Q4 b1 7;have c18:=Q4 b1 8;have c20:=Q4 b2 0;have c21:=Q4 b2 1;have J4b:=Q4 b2 2;have c23:=Q4 b2 3;have c24:=Q4 b2 4;have c25:=Q4 b2 5;have Jb2:=Q4 b2 6;have Jb3:=Q4 b2 7;have c28:=Q4 b2 8;simp at c10 c11 c12 c13 c14 c15 c16 c17 c18 c20 c21 J4b c23 c24 c25 Jb2 Jb3 c28
 have l1:=Q7 b1;have l2:=Q7 b2;have hs:=Qgx w2 r.v a b c d (Qm.X0 (Qm.X0 hx k1) k2) (Qm.X0 (Qm.X0 hy k1) k2);rw [<-hn] at hs;have HS:=zz hs;have hmt:p1+1=p2:=by rw [hp1,hp2,hw1];simp
 have J5p:=zz hmt;have HW:=zz (And.intro hw1 (And.intro hw2 (And.intro hp1 hp2)));have HK:=zz (k1.Q0 k2);have hkk:(r.key.toList==r.key.toList)=true:=beq_self_eq_true _;clear hx hy b1 b2 hw1 hw2 k1 k2 hmt hp1 hp2 hn hs;go_enter Tryz.func85,Tryz.ntmps85
 go_upto_region 1 with (refine Qy rfl 46 _ _ rfl _ (by rfl) _ _ _ rfl rfl (by kernel_rfl) (by rfl) (by rfl) ?_)
 rw [<-HW.out.1,<-HW.out.2.2.1,J5p.out,<-HW.out.2.1];go_wp2_with fail
 refine HS.out.mono ?_;rintro e w3 ⟨rfl,k3⟩;have Zk:=zz (HK.out.Q0 k3);clear k3 c10 c11 c12 c13 c14 c15 c16 c17 c18 c20 c21 J4b c23 c24 c25 Jb2 Jb3 c28 l1 l2;go_wp2_with fail
 go_ret
 exact ⟨rfl,Zk.out⟩
theorem Bh (w:World) (a b:Option Addr) (c d:Nat) (K1 K2:List Qe) (h1:Y1 w a K1) (h2:Y1 w b K2) (he:K1.map Qe.r=K2.map Qe.r) (hn:K1.length<=1000000):
  Calls Tryz.prog 35 #[.slice a K1.length c, .slice b K2.length d] w λe w'=>e= .returned (.bool true)/\Kp No w w':=by
 obtain ⟨n,hn1⟩: ∃n,n=K1.length:=⟨_,rfl⟩
 have hn2:n=K2.length:=by
  have:=congrArg List.length he;rw [length_map,length_map] at this;omega
 rw [<-hn1,<-hn2];have hnb:n<=1000000:=by omega
 have H:=zz (And.intro h1 (And.intro h2 (And.intro he (And.intro hn1 hn2))));clear h1 h2 he hn hn1 hn2;go_enter Tryz.func35,Tryz.ntmps35
 go_wp2_with fail
 rename World=>w0;go_loopw [5] (λi wr=> ∃j:Nat,j<=n/\i= .int .i64 (j:Int)/\Hid (Kp No w0 wr)) (λi _=>n-(intOf i).toNat)
 case atStart=>exact ⟨0,Nat.zero_le _,rfl,zz zK⟩
 case round=>
  obtain ⟨j,hj,rfl,HK⟩:=hrel;rcases Nat.lt_or_ge j n with hlt|hge
  ·have hj1:j<K1.length:=by rw [<-H.out.2.2.2.1];exact hlt
   have hj2:j<K2.length:=by rw [<-H.out.2.2.2.2];exact hlt
   have h1:=H.out.1.kp HK.out;have h2:=H.out.2.1.kp HK.out;obtain ⟨g,off,rfl,hgl,hg⟩:=Jx h1.1 hj1;obtain ⟨g',off',rfl,Q4s,hg'⟩:=Jx h2.1 hj2
   have hpe:K1[j].r=K2[j].r:=by
    have e:=congrArg (λl=>l[j]?) H.out.2.2.1;simp only [List.getElem?_map,getElem?_eq_getElem hj1,getElem?_eq_getElem hj2,Option.map_some] at e;exact Option.some.inj e
   have r1:=h1.2 _ (getElem_mem hj1);have r2:=h2.2 _ (getElem_mem hj2);obtain ⟨x,hx⟩: ∃x,x=K1[j]:=⟨_,rfl⟩;obtain ⟨y,hy⟩: ∃x,x=K2[j]:=⟨_,rfl⟩;rw [<-hx] at hg hpe r1;rw [<-hy] at hg' hpe r2;obtain ⟨rr,xa,xc⟩:=x;obtain ⟨rr',ya,yc⟩:=y;simp only at hpe
   subst hpe;have R1:=zz (show ∀W,Kp No wr W->W.rangeAt g (off+j*9) [.int .i64 rr.o, .int .i64 rr.seq, .string rr.key, .int .i64 rr.v.m, .int .i64 rr.v.c, .int .i64 rr.v.o, .slice xa rr.v.val.length xc, .bool rr.v.gone, .int .i64 rr.v.ttl] from hg);have R2:=zz (show ∀W,Kp No wr W->W.rangeAt g' (off'+j*9) [.int .i64 rr.o, .int .i64 rr.seq, .string rr.key, .int .i64 rr.v.m, .int .i64 rr.v.c, .int .i64 rr.v.o, .slice ya rr.v.val.length yc, .bool rr.v.gone, .int .i64 rr.v.ttl] from hg');have HS:=zz (λq=>Qcc (wr.drewN q) rr xa ya xc yc (Qm.X0 r1 ((Kp.refl No wr).drewN q)) (Qm.X0 r2 ((Kp.refl No wr).drewN q)));clear hg hg' r1 r2 hx hy h1 h2 hj1 hj2;go_upto_region 6 with fail
   refine zD No [0,0,0,0,0,0,0,0,2,0] [0,1,2,3,4,5,6,7,8,9] ?_;repeat (first|refine zA ?_|refine zB ?_|refine zC ?_)
   (try (apply Qb rfl rfl rfl;(focus (intro W hW;exact Qc 46 _ rfl g (off+j*9) rfl _ _ (R1.out W hW) Tryz.underlying46 rfl (by kernel_rfl)));(focus (go_simp;rfl))))
   repeat (first|refine zA ?_|refine zB ?_|refine zC ?_)
   (try (apply Qb rfl rfl rfl;(focus (intro W hW;exact Qc 46 _ rfl g' (off'+j*9) rfl _ _ (R2.out W hW) Tryz.underlying46 rfl (by kernel_rfl)));(focus (go_simp;rfl))))
   repeat (first|refine zA ?_|refine zB ?_|refine zC ?_)
   refine Q8 rfl rfl (λn1=>?_);go_wp2_with fail
   refine (HS.out n1).mono ?_;rintro e ws ⟨rfl,ks⟩;have ks':Kp No wr ws:=ks.Qf;go_wp2_with fail
   (try refine ⟨ks',?_⟩)
   repeat (first|refine zA ?_|refine zB ?_|refine zC ?_)
   refine Qa (λnq=>?_);have Qd2:=zz (HK.out.Q0 (ks'.drewN nq));clear ks ks' HS hgl Q4s;go_wp2_with fail
   go_roundw
   case rel=>exact ⟨j+1,hlt,by go_num,Qd2⟩
   case measure=>simp [intOf];omega
  ·obtain rfl:j=n:=by omega
   clear hge;go_wp2_with fail
   go_ret
   exact ⟨rfl,HK.out⟩
end Go.Proofs.YtgnkmjeoaoongaaGreatDoor
