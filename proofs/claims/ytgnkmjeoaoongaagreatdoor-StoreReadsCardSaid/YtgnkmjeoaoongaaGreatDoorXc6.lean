/-
  WRead, SGet, SRecIs.
-/
import Derived.Test.YtgnkmjeoaoongaaGreatDoorXc4
import Derived.Test.YtgnkmjeoaoongaaGreatDoorXb7
import Derived.Test.YtgnkmjeoaoongaaGreatDoorXb8
set_option maxRecDepth 100000
set_option maxHeartbeats 1000000
namespace Go.Proofs.YtgnkmjeoaoongaaGreatDoor
open Go.RowKit Go.Mer
theorem Qbh (w:World) (m c:Int):Calls Tryz.prog 202 #[.pointer none,Xo m c] w λe w'=>e= .returned (.int .i64 0)/\Kp No w w':=by
 go_enter Tryz.func202,Tryz.ntmps202
 go_wp2_with fail
 go_ret
 exact ⟨rfl,zK.alloc _⟩
theorem Qmv {l:List Qf} {m c:Int} {x:Qf} (h:l[Z0 l m c]?=some x):Z6 m c x.m x.c=true:=by
 have:=Ud (p:=λx:Qf=>!Z6 m c x.m x.c) h;simpa using this
theorem Lx (w:World) (k0:Ja) (m c:Int) (hc:Y7 203 w k0) (hn:k0.R.length<=1000000):
  Calls Tryz.prog 202 #[.pointer (some ⟨k0.b,0,none⟩),Xo m c] w λe w'=>e= .returned (.int .i64 (Z0 k0.vs m c:Nat))/\Kp No w w':=by
 obtain ⟨cb,ra,rc,R⟩:=k0;obtain ⟨n,hnR⟩: ∃n,n=R.length:=⟨_,rfl⟩;have hrow:(⟨cb,ra,rc,R⟩:Ja).row= .slice ra n rc:=by unfold Ja.row;rw [hnR]
 have hR:Rd w w.heap.size ra (R.flatMap Qg):=by have:=Own.rd' (a:=ra) (cap:=rc) (m:=R.length) hc.own;exact this
 obtain ⟨w1,hw1⟩: ∃W,W=w.alloc (.cells #[.int .i64 m, .int .i64 c] 25):=⟨_,rfl⟩;have k1:Kp No w w1:=by rw [hw1];exact zK.alloc _
 have bx:w1.heap[w.heap.size]?=some (.cells #[.int .i64 m, .int .i64 c] 25 (0,0)):=by rw [hw1];exact heap_alloc_new w _
 have hbl:=Q3 hc.cell;simp only at hbl hn
 have hnn:n<=1000000:=by omega
 obtain ⟨u,hu⟩: ∃u,u=Z0 (R.map Qd.v) m c:=⟨_,rfl⟩;have hun:u<=n:=by rw [hu,hnR];have:=Gu (R.map Qd.v) m c;rwa [List.length_map] at this
 have hcs: ∀k (h:k<R.length),k<u->Js R[k].v.m R[k].v.c m c<=0:=λk h hk=>by
  rw [(Xi _ _ _ _).1];exact Nu (l:=R.map Qd.v) (i:=k) (by rw [<-hu];exact hk) (by rw [List.getElem?_map,List.getElem?_eq_getElem h];rfl)
 have hce: ∀(h:u<R.length),¬Js R[u].v.m R[u].v.c m c<=0:=λh=>by
  rw [(Xi _ _ _ _).1];have:=Qmv (l:=R.map Qd.v) (m:=m) (c:=c) (x:=R[u].v) (by rw [<-hu,List.getElem?_map,List.getElem?_eq_getElem h];rfl);rw [this];decide
 have Qk1:=zz (show ∀k (h:k<R.length),∃g off,ra=some ⟨g,off,none⟩/\g<w1.heap.size/\ ∀W,Kp No w1 W->W.rangeAt g (off+k*6) [.int .i64 R[k].v.m, .int .i64 R[k].v.c] from λk h=>by
  obtain ⟨g,off,h1,h2,h3⟩:=Yh hR h;refine ⟨g,off,h1,Nat.lt_of_lt_of_le h2 k1.size,λW hW j v hj=>?_⟩;refine h3 W (k1.trans_same hW) j v ?_;match j,hj with
  |0,hj=>exact hj
  |1,hj=>exact hj)
 have HC:=zz hc;have HN:=zz hnR;have Qxn:=zz hcs;have Q0b:=zz hce;have V0:=zz hrow;have U8:=zz k1;have Qj3:=zz bx;have HW1:=zz hw1;have HU:=zz (show u=Z0 (⟨cb,ra,rc,R⟩:Ja).vs m c from hu)
 have f0: ∀W,Kp No w1 W->W.cell? ⟨cb,0,none⟩=some (.slice ra n rc):=λW hW=>by
  have:=hc.cells.1 W (k1.trans_same hW);rw [hrow] at this;exact this
 have J6q:=zz f0;have HX:=zz (show ∀W,Kp No w1 W->W.rangeAt w.heap.size 0 [.int .i64 m, .int .i64 c] from λW hW=>by have:=Qb (hW.get bx λx=>x) 0 2;exact this);have hxl:=Q3 bx;have J11:=k1.lt hbl;rw [<-HU.out];clear hc hnR hcs hce hrow k1 bx hw1 hu hR f0 hbl;go_enter Tryz.func202,Tryz.ntmps202
 go_wp2_with fail
 rw [<-HW1.out];go_loopw [5] (λs5 wr=> ∃k:Nat,s5= .int .i64 k/\k<=u/\Hid (Kp No w1 wr)) (λs5 _=>u-(intOf s5).toNat)
 case atStart=>exact ⟨0,rfl,Nat.zero_le _,zz zK⟩
 case round=>
  obtain ⟨k,rfl,J8q,HK⟩:=hrel;have f1: ∀W,Kp No wr W->W.cell? ⟨cb,0,none⟩=some (.slice ra n rc):=λW hW=>J6q.out W (HK.out.trans_same hW);have Qvb:cb<wr.heap.size:=HK.out.lt J11;have J96:w.heap.size<wr.heap.size:=HK.out.lt hxl;rcases Nat.lt_or_ge k n with hkn|hkn
  ·have hkR:k<R.length:=by have:=HN.out;omega
   obtain ⟨g,off,rfl,hgl,hgr⟩:=Qk1.out k hkR;obtain ⟨y,hy⟩: ∃y,y=R[k].v:=⟨_,rfl⟩;have hcm:=λW=>X7 y.m y.c m c W;obtain ⟨z,hz⟩: ∃z,z=Js y.m y.c m c:=⟨_,rfl⟩
   have hzz:(z<=0/\k<u)\/(0<z/\k=u):=by
    rcases Nat.lt_or_eq_of_le J8q with h|h
    ·left
     have:=Qxn.out k hkR h;rw [<-hy,<-hz] at this;exact ⟨this,h⟩
    ·right
     subst h;have:=Q0b.out hkR;rw [<-hy,<-hz] at this;exact ⟨by omega,rfl⟩
   rw [<-hy] at hgr;rw [<-hz] at hcm;have Q6w:=zz hgr;have HCM:=zz hcm;have Qvn:=HK.out.lt hgl;clear hkR hgr hcm hy hz hgl;rcases hzz with ⟨hz1,hz2⟩|⟨hz1,hz2⟩
   ·have hd:decide (z<=0)=true:=decide_eq_true hz1;clear hz1;go_upto_region 4 with fail
    refine zD No [0,0,0,0,0,0,0,0,0,0,0,0,0,0,0,0,0,2,0,0] [0,1,2,3,4,5,6,7,8,9,10,11,12,13,14,15,16,17,18,19] ?_;repeat (first|refine zA ?_|refine zB ?_|refine zC ?_)
    apply Q8 rfl rfl rfl
    ·intro W hW;exact Q9 25 _ rfl g (off+k*6) rfl [.int .i64 y.m, .int .i64 y.c] _ (Q6w.out W (HK.out.trans_same hW)) Tryz.underlying25 rfl (by kernel_rfl)
    ·(focus (go_simp;rfl))
    apply Q8 rfl rfl rfl
    ·intro W hW;exact Q9 25 _ rfl w.heap.size 0 rfl [.int .i64 m, .int .i64 c] _ (HX.out W (HK.out.trans_same hW)) Tryz.underlying25 rfl (by kernel_rfl)
    ·(focus (go_simp;rfl))
    refine Q4 rfl rfl (λq=>?_);go_wp2_with fail
    refine (HCM.out _).mono ?_;rintro e w2 ⟨rfl,hk2⟩;go_wp2_with fail
    refine ⟨hk2.of_drewN,?_⟩;repeat (first|refine zA ?_|refine zB ?_|refine zC ?_)
    refine Q6 (λnq=>?_);have Qz:=zz ((HK.out.trans_same hk2.of_drewN).drewN nq);clear hk2;go_wp2_with fail
    go_roundw
    case rel=>exact ⟨k+1,by go_num,hz2,Qz⟩
    case measure=>simp [intOf];omega
   ·have hd:decide (z<=0)=false:=decide_eq_false (by omega);have J6y:=zz hz2;clear hz1 hz2;go_upto_region 4 with fail
    refine zD No [0,0,0,0,0,0,0,0,0,0,0,0,0,0,0,0,0,2,0,0] [0,1,2,3,4,5,6,7,8,9,10,11,12,13,14,15,16,17,18,19] ?_;repeat (first|refine zA ?_|refine zB ?_|refine zC ?_)
    apply Q8 rfl rfl rfl
    ·intro W hW;exact Q9 25 _ rfl g (off+k*6) rfl [.int .i64 y.m, .int .i64 y.c] _ (Q6w.out W (HK.out.trans_same hW)) Tryz.underlying25 rfl (by kernel_rfl)
    ·(focus (go_simp;rfl))
    apply Q8 rfl rfl rfl
    ·intro W hW;exact Q9 25 _ rfl w.heap.size 0 rfl [.int .i64 m, .int .i64 c] _ (HX.out W (HK.out.trans_same hW)) Tryz.underlying25 rfl (by kernel_rfl)
    ·(focus (go_simp;rfl))
    refine Q4 rfl rfl (λq=>?_);go_wp2_with fail
    refine (HCM.out _).mono ?_;rintro e w2 ⟨rfl,hk2⟩;go_wp2_with fail
    refine ⟨hk2.of_drewN,?_⟩;repeat (first|refine zA ?_|refine zB ?_|refine zC ?_)
    refine Q6 (λnq=>?_);have Qz:=zz ((HK.out.trans_same hk2.of_drewN).drewN nq);clear hk2;go_wp2_with fail
    go_ret
    exact ⟨by rw [<-J6y.out];rfl,U8.out.trans_same Qz.out⟩
  ·have hkn':k=n:=by omega
   have Qvx:u=k:=by omega
   have Dn:=zz Qvx;have hge: ¬k<n:=by omega
   clear hkn' Qvx hkn;go_upto_region 4 with fail
   refine zD No [0,0,0,0,0,0,0,0,0,0,0,0,0,0,0,0,0,2,0,0] [0,1,2,3,4,5,6,7,8,9,10,11,12,13,14,15,16,17,18,19] ?_;repeat (first|refine zA ?_|refine zB ?_|refine zC ?_)
   refine Z3 rfl rfl (by rfl) rfl (λq=>⟨zK.drewN q,?_⟩);repeat (first|refine zA ?_|refine zB ?_|refine zC ?_)
   refine Q6 (λnq=>?_);go_wp2_with fail
   go_ret
   exact ⟨by rw [Dn.out];rfl,((U8.out.trans_same HK.out).drewN _).drewN _⟩
def AtP (w:World) (o:Option Qf) (e:Ending) (w':World):Prop:=
 match o with
 |none=>e= .returned (.tuple #[.agg #[.int .i64 0, .int .i64 0, .int .i64 0, .slice none 0 0, .bool false, .int .i64 0], .bool false])/\Kp No w w'
 |some v=> ∃y:Qd,y.v=v/\e= .returned (.tuple #[Y0 y, .bool true])/\y.ok w'/\(∀g,y.sl.ownBlock=some g->w.heap.size<=g)/\Kp No w w'
theorem Q45 (w:World) (p:Option Addr) (m c:Int) (h: ∀W,Kp No w W->Calls Tryz.prog 202 #[.pointer p,Xo m c] W λe w'=>e= .returned (.int .i64 0)/\Kp No W w'):
  Calls Tryz.prog 133 #[.pointer p,Xo m c] w (AtP w none):=by
 obtain ⟨w2,hw2⟩: ∃W,W=(w.alloc (.cells #[.int .i64 m, .int .i64 c] 25)).alloc (.cells #[.int .i64 0, .int .i64 0, .int .i64 0, .slice none 0 0, .bool false, .int .i64 0] 44):=⟨_,rfl⟩;have k2:Kp No w w2:=by rw [hw2];exact (zK.alloc _).alloc _
 have b1:w2.heap[w.heap.size]?=some (.cells #[.int .i64 m, .int .i64 c] 25 (0,0)):=by rw [hw2];exact J6 (heap_alloc_new w _) _
 have b2:w2.heap[w.heap.size+1]?=some (.cells #[.int .i64 0, .int .i64 0, .int .i64 0, .slice none 0 0, .bool false, .int .i64 0] 44 (0,0)):=by rw [hw2];exact (congrArg (λk=>((w.alloc _).alloc _).heap[k]?) (by simp)).trans (heap_alloc_new (w.alloc _) _)
 have c0:w2.cell? ⟨w.heap.size,0,none⟩=some (.int .i64 m):=Q0 b1 0;have c1:w2.cell? ⟨w.heap.size,1,none⟩=some (.int .i64 c):=Q0 b1 1;have hl1:=Q3 b1;have H:=zz (h w2 k2);have Qz:=zz k2;have HB2:=zz b2;have HW2:=zz hw2;clear h k2 b1 b2 hw2;go_enter Tryz.func133,Tryz.ntmps133
 go_upto_region 1 with fail
 rw [<-HW2.out];go_wp2_with fail
 refine H.out.mono ?_;rintro e w3 ⟨rfl,k3⟩;have HB3:=zz (k3.get HB2.out λx=>x);have Zj:=zz (Qz.out.trans_same k3);clear k3 c0 c1 hl1;have hl3:=Q3 HB3.out;go_wp2_with (refine Zi rfl 44 _ _ rfl (w.heap.size+1) _ rfl rfl 44 _ HB3 (by kernel_rfl) (by rfl) (by rfl) ?_)
 have b5:=U7 (cs:= #[.int .i64 0, .int .i64 0, .int .i64 0, .slice none 0 0, .bool false, .int .i64 0]) HB3.out;have d0:=Q0 b5 0;have d1:=Q0 b5 1;have d2:=Q0 b5 2;have d3:=Q0 b5 3;have d4:=Q0 b5 4;have d5:=Q0 b5 5;simp at d0 d1 d2 d3 d4 d5
 refine bodyPost_ret (v:= .tuple #[.agg #[.int .i64 0, .int .i64 0, .int .i64 0, .slice none 0 0, .bool false, .int .i64 0], .bool false]) (by simp [results,Tryz.results133,go_sem,d0,d1,d2,d3,d4,d5]) rfl ⟨rfl,Zj.out.setRow (.inr (by omega)) _⟩
theorem Gd {l:List Qf} {m c:Int} {v:Qf} (h:Lw l m c=some v): ∃u,Z0 l m c=u+1/\l[u]?=some v:=by
 unfold Lw at h;split at h
 ·cases h
 ·next h0=>exact ⟨Z0 l m c-1,by omega,h⟩
theorem Qf9 (w:World) (k0:Ja) (m c:Int) (hc:Y7 203 w k0) (hn:k0.R.length<=1000000) (v:Qf) (hv:Lw k0.vs m c=some v) (hval:v.val.length<=140737488355328):
  Calls Tryz.prog 133 #[.pointer (some ⟨k0.b,0,none⟩),Xo m c] w (AtP w (some v)):=by
 obtain ⟨u,hu1,hu2⟩:=Gd hv;have hup:=λW (h:Kp No w W)=>Lx W k0 m c (hc.Q5 h) hn;rw [hu1] at hup;obtain ⟨cb,ra,rc,R⟩:=k0;obtain ⟨n,hnR⟩: ∃n,n=R.length:=⟨_,rfl⟩;have hrow:(⟨cb,ra,rc,R⟩:Ja).row= .slice ra n rc:=by unfold Ja.row;rw [hnR]
 have hR:Rd w w.heap.size ra (R.flatMap Qg):=by have:=Own.rd' (a:=ra) (cap:=rc) (m:=R.length) hc.own;exact this
 have hu2:(R.map Qd.v)[u]?=some v:=hu2;rw [List.getElem?_map] at hu2;obtain ⟨x,hx,hxv⟩:=Option.map_eq_some_iff.1 hu2;have Qh4:=(List.getElem?_eq_some_iff.1 hx).1;have hxe:R[u]=x:=(List.getElem?_eq_some_iff.1 hx).2;have hxo:x.ok w:=hc.vals x (List.mem_of_getElem? hx);obtain ⟨g,off,rfl,hgl,hgr⟩:=Yh hR Qh4;rw [hxe] at hgr;have hun:u<n:=by omega
 obtain ⟨w2,hw2⟩: ∃W,W=(w.alloc (.cells #[.int .i64 m, .int .i64 c] 25)).alloc (.cells #[.int .i64 0, .int .i64 0, .int .i64 0, .slice none 0 0, .bool false, .int .i64 0] 44):=⟨_,rfl⟩;have k2:Kp No w w2:=by rw [hw2];exact (zK.alloc _).alloc _
 have b1:w2.heap[w.heap.size]?=some (.cells #[.int .i64 m, .int .i64 c] 25 (0,0)):=by rw [hw2];exact J6 (heap_alloc_new w _) _
 have b2:w2.heap[w.heap.size+1]?=some (.cells #[.int .i64 0, .int .i64 0, .int .i64 0, .slice none 0 0, .bool false, .int .i64 0] 44 (0,0)):=by rw [hw2];exact (congrArg (λk=>((w.alloc _).alloc _).heap[k]?) (by simp)).trans (heap_alloc_new (w.alloc _) _)
 have c0:w2.cell? ⟨w.heap.size,0,none⟩=some (.int .i64 m):=Q0 b1 0;have c1:w2.cell? ⟨w.heap.size,1,none⟩=some (.int .i64 c):=Q0 b1 1;have hl1:=Q3 b1;have hcb:=Q3 hc.cell;simp only at hcb
 have hw3:((u+1:Nat):Int)-1=(u:Int):=by push_cast;omega
 have hw4:(((u+1:Nat):Int)==0)=false:=by rw [beq_eq_false_iff_ne];omega
 obtain ⟨u1,Qh3⟩: ∃u1,u1=u+1:=⟨_,rfl⟩;rw [<-Qh3] at hw3 hw4 hup;have hub:u1<=1000001:=by simp only at hn;omega
 have Qrb:1<=u1:=by omega
 have H:=zz (hup w2 k2);have Qz:=zz k2;have HB2:=zz b2;have HW2:=zz hw2;have HC:=zz hc;have V0:=zz hrow;have Q6w:=zz hgr;have HX:=zz (And.intro hxv (And.intro hxo hval));clear hup k2 b1 b2 hw2 hc hrow hgr hxv hxo hval hnR hR hu2 hx hxe Qh4 hu1 hv Qh3;go_enter Tryz.func133,Tryz.ntmps133
 go_upto_region 1 with fail
 rw [<-HW2.out];go_wp2_with fail
 refine H.out.mono ?_;rintro e w3 ⟨rfl,k3⟩;have HB3:=zz (k3.get HB2.out λx=>x);have Zj:=zz (Qz.out.trans_same k3);clear k3 c0 c1 hl1;have hl3:=Q3 HB3.out
 have f0:w3.cell? ⟨cb,0,none⟩=some (.slice (some ⟨g,off,none⟩) n rc):=by
  have:=HC.out.cells.1 w3 Zj.out;rw [V0.out] at this;exact this
 have Qni:=zz (Q6w.out w3 Zj.out);have hcb3:=Zj.out.lt hcb;have hg3:=Zj.out.lt hgl;have how:=Cw x w3 (Qd.Fg HX.out.2.1.rd Zj.out) (by rw [HX.out.1];exact HX.out.2.2);have HOW:=zz how;clear how;go_upto_region 4 with fail
 go_wp2_with (refine Qe rfl 44 _ rfl g (off+u*6) rfl _ _ Qni Tryz.underlying44 rfl (by kernel_rfl) ?_)
 refine HOW.out.mono ?_;rintro e w4 ⟨y,hyv,rfl,hyo,Qe1,k4⟩;simp only [Y0,Qg];have HB4:=zz (k4.get HB3.out λx=>x);have hl4:=Q3 HB4.out;have HY:=zz (And.intro hyv (And.intro hyo Qe1));have Ox:=zz k4;clear hyv hyo Qe1 k4 f0;go_wp2_with (refine Zi rfl 44 _ _ rfl (w.heap.size+1) _ rfl rfl 44 _ HB4 (by kernel_rfl) (by rfl) (by rfl) ?_)
 have b5:=U7 (cs:= #[.int .i64 y.v.m, .int .i64 y.v.c, .int .i64 y.v.o,y.sl, .bool y.v.gone, .int .i64 y.v.ttl]) HB4.out;have d0:=Q0 b5 0;have d1:=Q0 b5 1;have d2:=Q0 b5 2;have d3:=Q0 b5 3;have d4:=Q0 b5 4;have d5:=Q0 b5 5;simp at d0 d1 d2 d3 d4 d5
 have k5:Kp (Mer.One (w.heap.size+1)) w4 (w4.setRow (w.heap.size+1) #[.int .i64 y.v.m, .int .i64 y.v.c, .int .i64 y.v.o,y.sl, .bool y.v.gone, .int .i64 y.v.ttl]):=(Kp.refl (Mer.One (w.heap.size+1)) _).setRow (.inl (show Mer.One (w.heap.size+1) (w.heap.size+1) from rfl)) _;refine bodyPost_ret (v:= .tuple #[.agg #[.int .i64 y.v.m, .int .i64 y.v.c, .int .i64 y.v.o,y.sl, .bool y.v.gone, .int .i64 y.v.ttl], .bool true]) (by simp [results,Tryz.results133,go_sem,d0,d1,d2,d3,d4,d5]) rfl ⟨y,?_,rfl,?_,?_,?_⟩
 ·rw [HY.out.1,HX.out.1]
 ·exact HY.out.2.1.apart k5 λgg hg cur hcur=>by
   have e:gg=w.heap.size+1:=hg;rw [e,HB4.out] at hcur;injection hcur with hcur;injection hcur with _ ht;exact absurd ht (by decide)
 ·intro gg hg;have:=HY.out.2.2 gg hg;have:=Zj.out.size;omega
 ·exact (Zj.out.trans_same Ox.out).setRow (.inr (by omega)) _
def Qox (w:World) (o:Option (List UInt8)) (e:Ending) (w':World):Prop:=
 match o with
 |none=>e= .returned (.tuple #[.slice none 0 0, .bool false])/\Kp No w w'
 |some l=> ∃a cap,e= .returned (.tuple #[.slice a l.length cap, .bool true])/\Own w' 5 1 (.slice a l.length cap) l.length (u8s l)/\(∀g,(Value.slice a l.length cap).ownBlock=some g->w.heap.size<=g)/\Kp No w w'
def Q90 (o:Option Qf) (m c:Int):Option (List UInt8):=match o with|none=>none|some v=>if Vr v m c=true then some v.val else none
theorem Mj (l:List Qf) (m c:Int):U1 l m c=Q90 (Lw l m c) m c:=rfl
theorem Qat {v:Qf} {m c:Int} (h:Vr v m c=true):Q90 (some v) m c=some v.val:=if_pos h
theorem Qin {v:Qf} {m c:Int} (h:Vr v m c=false):Q90 (some v) m c=none:=if_neg (by rw [h];decide)
theorem Q46 (w:World) (p:Option Addr) (m c:Int) (o:Option Qf) (hm:m<=9223372036854775807) (h: ∀W,Kp No w W->Calls Tryz.prog 133 #[.pointer p,Xo m c] W (AtP W o)) (hv: ∀v,o=some v->Zx v=true):
  Calls Tryz.prog 79 #[.pointer p,Xo m c] w (Qox w (Q90 o m c)):=by
 obtain ⟨w1,hw1⟩: ∃W,W=w.alloc (.cells #[.int .i64 m, .int .i64 c] 25):=⟨_,rfl⟩;have k1:Kp No w w1:=by rw [hw1];exact zK.alloc _
 have b1:w1.heap[w.heap.size]?=some (.cells #[.int .i64 m, .int .i64 c] 25 (0,0)):=by rw [hw1];exact heap_alloc_new w _
 have c0:w1.cell? ⟨w.heap.size,0,none⟩=some (.int .i64 m):=Q0 b1 0;have c1:w1.cell? ⟨w.heap.size,1,none⟩=some (.int .i64 c):=Q0 b1 1;have hl1:=Q3 b1;have H:=zz (h w1 k1);have U8:=zz k1;have HB1:=zz b1;have HW1:=zz hw1;clear h k1 b1 hw1;cases o with
 |none=>
  go_enter Tryz.func79,Tryz.ntmps79
  go_upto_region 1 with fail
  rw [<-HW1.out];go_wp2_with fail
  refine H.out.mono ?_;rintro e w3 ⟨rfl,k3⟩;have Zj:=zz (U8.out.trans_same k3);clear k3 c0 c1 hl1;go_wp2_with fail
  go_ret2
  exact ⟨rfl,Zj.out.alloc _⟩
 |some v=>
  have hvv:=hv v rfl;have HVV:=zz hvv;clear hv hvv;go_enter Tryz.func79,Tryz.ntmps79
  go_upto_region 1 with fail
  rw [<-HW1.out];go_wp2_with fail
  refine H.out.mono ?_;rintro e w3 ⟨y,hyv,rfl,hyo,Qe1,k3⟩;simp only [Y0,Qg];have Zj:=zz (U8.out.trans_same k3);have HB3:=zz (k3.get HB1.out λx=>x);have HY:=zz (And.intro hyv (And.intro hyo (λg hg=>Nat.le_trans U8.out.size (Qe1 g hg))));have Ja8:=zz Qe1;clear k3 c0 c1 hl1 hyv hyo Qe1;go_upto_region 2 with (refine Qy rfl 44 _ _ rfl w3.heap.size (by rfl) _ _ _ rfl rfl (by kernel_rfl) (by rfl) (by rfl) ?_)
  obtain ⟨w5,hw5⟩: ∃W,W=w3.alloc (.cells #[.int .i64 y.v.m, .int .i64 y.v.c, .int .i64 y.v.o,y.sl, .bool y.v.gone, .int .i64 y.v.ttl] 44):=⟨_,rfl⟩;have k5:Kp No w3 w5:=by rw [hw5];exact zK.alloc _
  have b5:w5.heap[w3.heap.size]?=some (.cells #[.int .i64 y.v.m, .int .i64 y.v.c, .int .i64 y.v.o,y.sl, .bool y.v.gone, .int .i64 y.v.ttl] 44 (0,0)):=by rw [hw5];exact heap_alloc_new w3 _
  rw [<-hw5];have d0:w5.cell? ⟨w3.heap.size,0,none⟩=some (.int .i64 y.v.m):=Q0 b5 0;have d1:w5.cell? ⟨w3.heap.size,1,none⟩=some (.int .i64 y.v.c):=Q0 b5 1;have d2:w5.cell? ⟨w3.heap.size,2,none⟩=some (.int .i64 y.v.o):=Q0 b5 2;have d3:w5.cell? ⟨w3.heap.size,3,none⟩=some y.sl:=Q0 b5 3;have d4:w5.cell? ⟨w3.heap.size,4,none⟩=some (.bool y.v.gone):=Q0 b5 4;have d5:w5.cell? ⟨w3.heap.size,5,none⟩=some (.int .i64 y.v.ttl):=Q0 b5 5;have c0:w5.cell? ⟨w.heap.size,0,none⟩=some (.int .i64 m):=Q0 (k5.get HB3.out λx=>x) 0;have c1:w5.cell? ⟨w.heap.size,1,none⟩=some (.int .i64 c):=Q0 (k5.get HB3.out λx=>x) 1;have hl5:=Q3 b5;have J1e:=Q3 (k5.get HB3.out λx=>x);have Ga:=zz k5;have Q0q:=zz b5;have hsn:=Q0x y (by rw [HY.out.1];exact HVV.out) m c hm w5;rw [HY.out.1] at hsn;have Qk3:=zz hsn;clear hw5 k5 b5 hsn;cases hse:Vr v m c with
  |true=>
   have Qen:=zz hse;clear hse;go_wp2_with fail
   refine Qk3.out.mono ?_;rintro e w6 ⟨rfl,k6⟩;rw [Qen.out];have h3:w6.cell? ⟨w3.heap.size,3,none⟩=some y.sl:=Q0 (k6.get Q0q.out λx=>x) 3;have Qss:=Q3 (k6.get Q0q.out λx=>x);have Gb:=zz k6;clear k6 d0 d1 d2 d3 d4 d5 c0 c1;go_wp2_with fail
   go_ret2
   rw [Qat Qen.out,<-HY.out.1];exact ⟨y.a,y.cap,rfl,(HY.out.2.1.keep Ga.out λ_ _ x=>x).keep Gb.out λ_ _ x=>x,HY.out.2.2,(Zj.out.trans_same Ga.out).trans_same Gb.out⟩
  |false=>
   have Qen:=zz hse;clear hse;go_wp2_with fail
   refine Qk3.out.mono ?_;rintro e w6 ⟨rfl,k6⟩;rw [Qen.out];have Gb:=zz k6;clear k6 d0 d1 d2 d3 d4 d5 c0 c1;go_wp2_with fail
   go_ret2
   rw [Qin Qen.out];exact ⟨rfl,(Zj.out.trans_same Ga.out).trans_same Gb.out⟩
def Ig (x:Qa):Value:= .agg (recC x).toArray
structure Qub (r:Qx):Prop where
 st:Jp r.v.m r.v.c=true
 o0:0<=r.o
 o5:r.o<5
 q1:1<=r.seq
 q2:r.seq<=1099511627776
 k1:1<=(r.key.size:Int)
 k2:(r.key.size:Int)<=64
 oo:r.v.o=r.o
 vl:(r.v.val.length:Int)<=1024
 t0:0<=r.v.ttl
 t1:r.v.ttl<=281474976710655
 gg:r.v.gone=true->(r.v.val.length:Int)=0/\r.v.ttl=0
theorem Br {r:Qx}:Jv r=true↔Qub r:=by
 rw [Yw,Zo,<-Zh];constructor
 ·rintro ⟨⟨st,o0,o5,vl,t0,t1,gg⟩,oo,q1,q2,k1,k2⟩;exact ⟨st,by omega,by omega,q1,q2,by omega,by omega,oo,by omega,t0,t1,λh=>⟨by have:=gg h;omega,(gg h).2⟩⟩
 ·rintro ⟨st,o0,o5,q1,q2,k1,k2,oo,vl,t0,t1,gg⟩;exact ⟨⟨st,by omega,by omega,by omega,t0,t1,λh=>⟨by have:=gg h;omega,(gg h).2⟩⟩,oo,q1,q2,by omega,by omega⟩
theorem U3 {r:Qx} (h: ¬Qub r):Jv r=false:=by
 cases hh:Jv r with
 |false=>rfl
 |true=>exact absurd (Br.1 hh) h
theorem Qr {p q:Prop} [Decidable p] [Decidable q] (h:p↔q) {b:Bool} (hp:decide p=b):decide q=b:=by rw [<-hp];exact decide_eq_decide.2 h.symm
theorem Ge {n:Nat} {b:Bool} (h:((n:Int)==0)=b):(n==0)=b:=by
 rw [<-h];cases n with
 |zero=>rfl
 |succ k=>
  have e:(((k+1:Nat):Int)==0)=false:=by rw [beq_eq_false_iff_ne];omega
  rw [e];rfl
theorem Q60 (x:Qa) (w:World):Calls Tryz.prog 109 #[Ig x] w λe w'=>e= .returned (.bool (Jv x.r))/\Kp No w w':=by
 obtain ⟨r,a,cap⟩:=x;unfold Ig recC Qa.sl;simp only
 cases b1:Jp r.v.m r.v.c with
 |false=>exact Qmj r a cap w (zz b1) (zz (U3 λh=>absurd h.st (by rw [b1];decide)))
 |true=>
 cases d1:decide (0<=r.o) with
 |false=>exact Qm6 r a cap w (zz b1) d1 (zz (U3 λh=>of_decide_eq_false d1 h.o0))
 |true=>
 cases d2:decide (r.o<5) with
 |false=>exact Qm7 r a cap w (zz b1) d1 d2 (zz (U3 λh=>of_decide_eq_false d2 h.o5))
 |true=>
 cases d3:decide (1<=r.seq) with
 |false=>exact Qm8 r a cap w (zz b1) d1 d2 d3 (zz (U3 λh=>of_decide_eq_false d3 h.q1))
 |true=>
 cases d4:decide (r.seq<=1099511627776) with
 |false=>exact Qm9 r a cap w (zz b1) d1 d2 d3 d4 (zz (U3 λh=>of_decide_eq_false d4 h.q2))
 |true=>
 cases d5:decide (1<=(r.key.size:Int)) with
 |false=>exact Qma r a cap w (zz b1) d1 d2 d3 d4 d5 (Qr (by omega) d5) (zz (U3 λh=>of_decide_eq_false d5 h.k1))
 |true=>
 cases d6:decide ((r.key.size:Int)<=64) with
 |false=>exact Qmb r a cap w (zz b1) d1 d2 d3 d4 d5 (Qr (by omega) d5) d6 (Qr (by omega) d6) (zz (U3 λh=>of_decide_eq_false d6 h.k2))
 |true=>
 cases d7:(r.v.o==r.o) with
 |false=>exact Qmc r a cap w (zz b1) d1 d2 d3 d4 d5 (Qr (by omega) d5) d6 (Qr (by omega) d6) d7 (zz (U3 λh=>ne_of_beq_false d7 h.oo))
 |true=>
 cases d8:decide ((r.v.val.length:Int)<=1024) with
 |false=>exact Qmd r a cap w (zz b1) d1 d2 d3 d4 d5 (Qr (by omega) d5) d6 (Qr (by omega) d6) d7 d8 (Qr (by omega) d8) (zz (U3 λh=>of_decide_eq_false d8 h.vl))
 |true=>
 cases d9:decide (0<=r.v.ttl) with
 |false=>exact Qme r a cap w (zz b1) d1 d2 d3 d4 d5 (Qr (by omega) d5) d6 (Qr (by omega) d6) d7 d8 (Qr (by omega) d8) d9 (zz (U3 λh=>of_decide_eq_false d9 h.t0))
 |true=>
 cases da:decide (r.v.ttl<=281474976710655) with
 |false=>exact Qmf r a cap w (zz b1) d1 d2 d3 d4 d5 (Qr (by omega) d5) d6 (Qr (by omega) d6) d7 d8 (Qr (by omega) d8) d9 da (zz (U3 λh=>of_decide_eq_false da h.t1))
 |true=>
 rcases Bool.eq_false_or_eq_true r.v.gone with db|db
 rotate_left
 ·exact Qmg r a cap w (zz b1) d1 d2 d3 d4 d5 (Qr (by omega) d5) d6 (Qr (by omega) d6) d7 d8 (Qr (by omega) d8) d9 da db (zz (Br.2 ⟨b1,of_decide_eq_true d1,of_decide_eq_true d2,of_decide_eq_true d3,of_decide_eq_true d4,of_decide_eq_true d5,of_decide_eq_true d6,eq_of_beq d7,of_decide_eq_true d8,of_decide_eq_true d9,of_decide_eq_true da,λh=>absurd h (by rw [db];decide)⟩))
 cases dc:((r.v.val.length:Int)==0) with
 |false=>exact Qmh r a cap w (zz b1) d1 d2 d3 d4 d5 (Qr (by omega) d5) d6 (Qr (by omega) d6) d7 d8 (Qr (by omega) d8) d9 da db dc (Ge dc) (zz (U3 λh=>ne_of_beq_false dc (h.gg db).1))
 |true=>
 cases dd:(r.v.ttl==0) with
 |false=>exact Qmi r a cap w (zz b1) d1 d2 d3 d4 d5 (Qr (by omega) d5) d6 (Qr (by omega) d6) d7 d8 (Qr (by omega) d8) d9 da db dc (Ge dc) dd (zz (U3 λh=>ne_of_beq_false dd (h.gg db).2))
 |true=>
 exact Qi1 r a cap w (zz b1) d1 d2 d3 d4 d5 (Qr (by omega) d5) d6 (Qr (by omega) d6) d7 d8 (Qr (by omega) d8) d9 da db dc (Ge dc) dd (zz (Br.2 ⟨b1,of_decide_eq_true d1,of_decide_eq_true d2,of_decide_eq_true d3,of_decide_eq_true d4,of_decide_eq_true d5,of_decide_eq_true d6,eq_of_beq d7,of_decide_eq_true d8,of_decide_eq_true d9,of_decide_eq_true da,λ_=>⟨eq_of_beq dc,eq_of_beq dd⟩⟩))
end Go.Proofs.YtgnkmjeoaoongaaGreatDoor
