/- store -/
import Derived.Test.YtgnkmjeoaoongaaGreatDoorVb7
import Derived.Test.YtgnkmjeoaoongaaGreatDoorVb4
set_option maxRecDepth 100000
set_option maxHeartbeats 1000000
namespace Go.Proofs.YtgnkmjeoaoongaaGreatDoor
open Go.RowKit Go.Mer
theorem Qff (w:World) (m c:Int):Calls Tryz.prog 202 #[.pointer none,Xl m c] w λe w'=>e= .returned (.int .i64 0)/\Kp No w w':=by
 go_enter Tryz.func202,Tryz.ntmps202
 go_wp2_with fail
 go_ret
 exact ⟨rfl,zK.alloc _⟩
theorem Qrh {l:List Qo} {m c:Int} {x:Qo} (h:l[Xk l m c]?=some x):Zq m c x.m x.c=true:=by
 have:=Fa (p:=λx:Qo=>!Zq m c x.m x.c) h;simpa using this
theorem Q32 (w:World) (k0:Zs) (m c:Int) (hc:Xr 203 w k0) (hn:k0.R.length<=1000000):
  Calls Tryz.prog 202 #[.pointer (some ⟨k0.b,0,none⟩),Xl m c] w λe w'=>e= .returned (.int .i64 (Xk k0.vs m c:Nat))/\Kp No w w':=by
 obtain ⟨cb,ra,rc,R⟩:=k0;obtain ⟨n,hnR⟩: ∃n,n=R.length:=⟨_,rfl⟩;have hrow:(⟨cb,ra,rc,R⟩:Zs).row= .slice ra n rc:=by unfold Zs.row;rw [hnR]
 have hR:Rd w w.heap.size ra (R.flatMap Qv):=by have:=Own.rd' (a:=ra) (cap:=rc) (m:=R.length) hc.own;exact this
 obtain ⟨w1,hw1⟩: ∃W,W=w.alloc (.cells #[.int .i64 m, .int .i64 c] 25):=⟨_,rfl⟩;have k1:Kp No w w1:=by rw [hw1];exact zK.alloc _
 have bx:w1.heap[w.heap.size]?=some (.cells #[.int .i64 m, .int .i64 c] 25 (0,0)):=by rw [hw1];exact heap_alloc_new w _
 have hbl:=Q7 hc.cell;simp only at hbl hn
 have hnn:n<=1000000:=by omega
 obtain ⟨u,hu⟩: ∃u,u=Xk (R.map Qm.v) m c:=⟨_,rfl⟩;have hun:u<=n:=by rw [hu,hnR];have:=Q1z (R.map Qm.v) m c;rwa [List.length_map] at this
 have hcs: ∀k (h:k<R.length),k<u->Z6 R[k].v.m R[k].v.c m c<=0:=λk h hk=>by
  rw [(Vf _ _ _ _).1];exact Q20 (l:=R.map Qm.v) (i:=k) (by rw [<-hu];exact hk) (by rw [List.getElem?_map,List.getElem?_eq_getElem h];rfl)
 have hce: ∀(h:u<R.length),¬Z6 R[u].v.m R[u].v.c m c<=0:=λh=>by
  rw [(Vf _ _ _ _).1];have:=Qrh (l:=R.map Qm.v) (m:=m) (c:=c) (x:=R[u].v) (by rw [<-hu,List.getElem?_map,List.getElem?_eq_getElem h];rfl);rw [this];decide
 have Qou:=zz (show ∀k (h:k<R.length),∃g off,ra=some ⟨g,off,none⟩/\g<w1.heap.size/\ ∀W,Kp No w1 W->W.rangeAt g (off+k*6) [.int .i64 R[k].v.m, .int .i64 R[k].v.c] from λk h=>by
  obtain ⟨g,off,h1,h2,h3⟩:=Vz hR h;refine ⟨g,off,h1,Nat.lt_of_lt_of_le h2 k1.size,λW hW j v hj=>?_⟩;refine h3 W (k1.Q0 hW) j v ?_;match j,hj with
  |0,hj=>exact hj
  |1,hj=>exact hj)
 have HC:=zz hc;have HN:=zz hnR;have J3p:=zz hcs;have Q47:=zz hce;have Mo:=zz hrow;have Yq:=zz k1;have Qnw:=zz bx;have HW1:=zz hw1;have HU:=zz (show u=Xk (⟨cb,ra,rc,R⟩:Zs).vs m c from hu)
 have f0: ∀W,Kp No w1 W->W.cell? ⟨cb,0,none⟩=some (.slice ra n rc):=λW hW=>by
  have:=hc.cells.1 W (k1.Q0 hW);rw [hrow] at this;exact this
 have Jdm:=zz f0;have HX:=zz (show ∀W,Kp No w1 W->W.rangeAt w.heap.size 0 [.int .i64 m, .int .i64 c] from λW hW=>by have:=Qg (hW.get bx λx=>x) 0 2;exact this);have hxl:=Q7 bx;have J0w:=k1.lt hbl;rw [<-HU.out];clear hc hnR hcs hce hrow k1 bx hw1 hu hR f0 hbl;go_enter Tryz.func202,Tryz.ntmps202
 go_wp2_with fail
 rw [<-HW1.out];go_loopw [5] (λs5 wr=> ∃k:Nat,s5= .int .i64 k/\k<=u/\Hid (Kp No w1 wr)) (λs5 _=>u-(intOf s5).toNat)
 case atStart=>exact ⟨0,rfl,Nat.zero_le _,zz zK⟩
 case round=>
  obtain ⟨k,rfl,Jgq,HK⟩:=hrel;have f1: ∀W,Kp No wr W->W.cell? ⟨cb,0,none⟩=some (.slice ra n rc):=λW hW=>Jdm.out W (HK.out.Q0 hW);have J0y:cb<wr.heap.size:=HK.out.lt J0w;have Jha:w.heap.size<wr.heap.size:=HK.out.lt hxl;rcases Nat.lt_or_ge k n with hkn|hkn
  ·have hkR:k<R.length:=by have:=HN.out;omega
   obtain ⟨g,off,rfl,hgl,hgr⟩:=Qou.out k hkR;obtain ⟨y,hy⟩: ∃y,y=R[k].v:=⟨_,rfl⟩;have hcm:=λW=>Vn y.m y.c m c W;obtain ⟨z,hz⟩: ∃z,z=Z6 y.m y.c m c:=⟨_,rfl⟩
   have hzz:(z<=0/\k<u)\/(0<z/\k=u):=by
    rcases Nat.lt_or_eq_of_le Jgq with h|h
    ·left
     have:=J3p.out k hkR h;rw [<-hy,<-hz] at this;exact ⟨this,h⟩
    ·right
     subst h;have:=Q47.out hkR;rw [<-hy,<-hz] at this;exact ⟨by omega,rfl⟩
   rw [<-hy] at hgr;rw [<-hz] at hcm;have Qhy:=zz hgr;have HCM:=zz hcm;have J1a:=HK.out.lt hgl;clear hkR hgr hcm hy hz hgl;rcases hzz with ⟨hz1,hz2⟩|⟨hz1,hz2⟩
   ·have hd:decide (z<=0)=true:=decide_eq_true hz1;clear hz1;go_upto_region 4 with fail
    refine zD No [0,0,0,0,0,0,0,0,0,0,0,0,0,0,0,0,0,2,0,0] [0,1,2,3,4,5,6,7,8,9,10,11,12,13,14,15,16,17,18,19] ?_;repeat (first|refine zA ?_|refine zB ?_|refine zC ?_)
    apply Qb rfl rfl rfl
    ·intro W hW;exact Qc 25 _ rfl g (off+k*6) rfl [.int .i64 y.m, .int .i64 y.c] _ (Qhy.out W (HK.out.Q0 hW)) Tryz.underlying25 rfl (by kernel_rfl)
    ·(focus (go_simp;rfl))
    apply Qb rfl rfl rfl
    ·intro W hW;exact Qc 25 _ rfl w.heap.size 0 rfl [.int .i64 m, .int .i64 c] _ (HX.out W (HK.out.Q0 hW)) Tryz.underlying25 rfl (by kernel_rfl)
    ·(focus (go_simp;rfl))
    refine Q8 rfl rfl (λq=>?_);go_wp2_with fail
    refine (HCM.out _).mono ?_;rintro e w2 ⟨rfl,hk2⟩;go_wp2_with fail
    refine ⟨hk2.Qf,?_⟩;repeat (first|refine zA ?_|refine zB ?_|refine zC ?_)
    refine Qa (λnq=>?_);have J9:=zz ((HK.out.Q0 hk2.Qf).drewN nq);clear hk2;go_wp2_with fail
    go_roundw
    case rel=>exact ⟨k+1,by go_num,hz2,J9⟩
    case measure=>simp [intOf];omega
   ·have hd:decide (z<=0)=false:=decide_eq_false (by omega);have Jdu:=zz hz2;clear hz1 hz2;go_upto_region 4 with fail
    refine zD No [0,0,0,0,0,0,0,0,0,0,0,0,0,0,0,0,0,2,0,0] [0,1,2,3,4,5,6,7,8,9,10,11,12,13,14,15,16,17,18,19] ?_;repeat (first|refine zA ?_|refine zB ?_|refine zC ?_)
    apply Qb rfl rfl rfl
    ·intro W hW;exact Qc 25 _ rfl g (off+k*6) rfl [.int .i64 y.m, .int .i64 y.c] _ (Qhy.out W (HK.out.Q0 hW)) Tryz.underlying25 rfl (by kernel_rfl)
    ·(focus (go_simp;rfl))
    apply Qb rfl rfl rfl
    ·intro W hW;exact Qc 25 _ rfl w.heap.size 0 rfl [.int .i64 m, .int .i64 c] _ (HX.out W (HK.out.Q0 hW)) Tryz.underlying25 rfl (by kernel_rfl)
    ·(focus (go_simp;rfl))
    refine Q8 rfl rfl (λq=>?_);go_wp2_with fail
    refine (HCM.out _).mono ?_;rintro e w2 ⟨rfl,hk2⟩;go_wp2_with fail
    refine ⟨hk2.Qf,?_⟩;repeat (first|refine zA ?_|refine zB ?_|refine zC ?_)
    refine Qa (λnq=>?_);have J9:=zz ((HK.out.Q0 hk2.Qf).drewN nq);clear hk2;go_wp2_with fail
    go_ret
    exact ⟨by rw [<-Jdu.out];rfl,Yq.out.Q0 J9.out⟩
  ·have hkn':k=n:=by omega
   have J1l:u=k:=by omega
   have U3:=zz J1l;have hge: ¬k<n:=by omega
   clear hkn' J1l hkn;go_upto_region 4 with fail
   refine zD No [0,0,0,0,0,0,0,0,0,0,0,0,0,0,0,0,0,2,0,0] [0,1,2,3,4,5,6,7,8,9,10,11,12,13,14,15,16,17,18,19] ?_;repeat (first|refine zA ?_|refine zB ?_|refine zC ?_)
   refine Zt rfl rfl (by rfl) rfl (λq=>⟨zK.drewN q,?_⟩);repeat (first|refine zA ?_|refine zB ?_|refine zC ?_)
   refine Qa (λnq=>?_);go_wp2_with fail
   go_ret
   exact ⟨by rw [U3.out];rfl,((Yq.out.Q0 HK.out).drewN _).drewN _⟩
def AtP (w:World) (o:Option Qo) (e:Ending) (w':World):Prop:=
 match o with
 |none=>e= .returned (.tuple #[.agg #[.int .i64 0, .int .i64 0, .int .i64 0, .slice none 0 0, .bool false, .int .i64 0], .bool false])/\Kp No w w'
 |some v=> ∃y:Qm,y.v=v/\e= .returned (.tuple #[Yk y, .bool true])/\y.ok w'/\(∀g,y.sl.ownBlock=some g->w.heap.size<=g)/\Kp No w w'
theorem Q6r (w:World) (p:Option Addr) (m c:Int) (h: ∀W,Kp No w W->Calls Tryz.prog 202 #[.pointer p,Xl m c] W λe w'=>e= .returned (.int .i64 0)/\Kp No W w'):
  Calls Tryz.prog 133 #[.pointer p,Xl m c] w (AtP w none):=by
 obtain ⟨w2,hw2⟩: ∃W,W=(w.alloc (.cells #[.int .i64 m, .int .i64 c] 25)).alloc (.cells #[.int .i64 0, .int .i64 0, .int .i64 0, .slice none 0 0, .bool false, .int .i64 0] 44):=⟨_,rfl⟩;have k2:Kp No w w2:=by rw [hw2];exact (zK.alloc _).alloc _
 have b1:w2.heap[w.heap.size]?=some (.cells #[.int .i64 m, .int .i64 c] 25 (0,0)):=by rw [hw2];exact Jm (heap_alloc_new w _) _
 have b2:w2.heap[w.heap.size+1]?=some (.cells #[.int .i64 0, .int .i64 0, .int .i64 0, .slice none 0 0, .bool false, .int .i64 0] 44 (0,0)):=by rw [hw2];exact (congrArg (λk=>((w.alloc _).alloc _).heap[k]?) (by simp)).trans (heap_alloc_new (w.alloc _) _)
 have c0:w2.cell? ⟨w.heap.size,0,none⟩=some (.int .i64 m):=Q4 b1 0;have c1:w2.cell? ⟨w.heap.size,1,none⟩=some (.int .i64 c):=Q4 b1 1;have hl1:=Q7 b1;have H:=zz (h w2 k2);have J9:=zz k2;have HB2:=zz b2;have HW2:=zz hw2;clear h k2 b1 b2 hw2;go_enter Tryz.func133,Tryz.ntmps133
 go_upto_region 1 with fail
 rw [<-HW2.out];go_wp2_with fail
 refine H.out.mono ?_;rintro e w3 ⟨rfl,k3⟩;have HB3:=zz (k3.get HB2.out λx=>x);have Zk:=zz (J9.out.Q0 k3);clear k3 c0 c1 hl1;have hl3:=Q7 HB3.out;go_wp2_with (refine Zx rfl 44 _ _ rfl (w.heap.size+1) _ rfl rfl 44 _ HB3 (by kernel_rfl) (by rfl) (by rfl) ?_)
 have b5:=Uu (cs:= #[.int .i64 0, .int .i64 0, .int .i64 0, .slice none 0 0, .bool false, .int .i64 0]) HB3.out;have d0:=Q4 b5 0;have d1:=Q4 b5 1;have d2:=Q4 b5 2;have d3:=Q4 b5 3;have d4:=Q4 b5 4;have d5:=Q4 b5 5;simp at d0 d1 d2 d3 d4 d5
 refine bodyPost_ret (v:= .tuple #[.agg #[.int .i64 0, .int .i64 0, .int .i64 0, .slice none 0 0, .bool false, .int .i64 0], .bool false]) (by simp [results,Tryz.results133,go_sem,d0,d1,d2,d3,d4,d5]) rfl ⟨rfl,Zk.out.setRow (.inr (by omega)) _⟩
theorem Lw {l:List Qo} {m c:Int} {v:Qo} (h:Qau l m c=some v): ∃u,Xk l m c=u+1/\l[u]?=some v:=by
 unfold Qau at h;split at h
 ·cases h
 ·next h0=>exact ⟨Xk l m c-1,by omega,h⟩
theorem Qjd (w:World) (k0:Zs) (m c:Int) (hc:Xr 203 w k0) (hn:k0.R.length<=1000000) (v:Qo) (hv:Qau k0.vs m c=some v) (hval:v.val.length<=140737488355328):
  Calls Tryz.prog 133 #[.pointer (some ⟨k0.b,0,none⟩),Xl m c] w (AtP w (some v)):=by
 obtain ⟨u,hu1,hu2⟩:=Lw hv;have hup:=λW (h:Kp No w W)=>Q32 W k0 m c (hc.Q9 h) hn;rw [hu1] at hup;obtain ⟨cb,ra,rc,R⟩:=k0;obtain ⟨n,hnR⟩: ∃n,n=R.length:=⟨_,rfl⟩;have hrow:(⟨cb,ra,rc,R⟩:Zs).row= .slice ra n rc:=by unfold Zs.row;rw [hnR]
 have hR:Rd w w.heap.size ra (R.flatMap Qv):=by have:=Own.rd' (a:=ra) (cap:=rc) (m:=R.length) hc.own;exact this
 have hu2:(R.map Qm.v)[u]?=some v:=hu2;rw [List.getElem?_map] at hu2;obtain ⟨x,hx,hxv⟩:=Option.map_eq_some_iff.1 hu2;have J2m:=(List.getElem?_eq_some_iff.1 hx).1;have hxe:R[u]=x:=(List.getElem?_eq_some_iff.1 hx).2;have hxo:x.ok w:=hc.vals x (List.mem_of_getElem? hx);obtain ⟨g,off,rfl,hgl,hgr⟩:=Vz hR J2m;rw [hxe] at hgr;have hun:u<n:=by omega
 obtain ⟨w2,hw2⟩: ∃W,W=(w.alloc (.cells #[.int .i64 m, .int .i64 c] 25)).alloc (.cells #[.int .i64 0, .int .i64 0, .int .i64 0, .slice none 0 0, .bool false, .int .i64 0] 44):=⟨_,rfl⟩;have k2:Kp No w w2:=by rw [hw2];exact (zK.alloc _).alloc _
 have b1:w2.heap[w.heap.size]?=some (.cells #[.int .i64 m, .int .i64 c] 25 (0,0)):=by rw [hw2];exact Jm (heap_alloc_new w _) _
 have b2:w2.heap[w.heap.size+1]?=some (.cells #[.int .i64 0, .int .i64 0, .int .i64 0, .slice none 0 0, .bool false, .int .i64 0] 44 (0,0)):=by rw [hw2];exact (congrArg (λk=>((w.alloc _).alloc _).heap[k]?) (by simp)).trans (heap_alloc_new (w.alloc _) _)
 have c0:w2.cell? ⟨w.heap.size,0,none⟩=some (.int .i64 m):=Q4 b1 0;have c1:w2.cell? ⟨w.heap.size,1,none⟩=some (.int .i64 c):=Q4 b1 1;have hl1:=Q7 b1;have hcb:=Q7 hc.cell;simp only at hcb
 have hw3:((u+1:Nat):Int)-1=(u:Int):=by push_cast;omega
 have hw4:(((u+1:Nat):Int)==0)=false:=by rw [beq_eq_false_iff_ne];omega
 obtain ⟨u1,J2l⟩: ∃u1,u1=u+1:=⟨_,rfl⟩;rw [<-J2l] at hw3 hw4 hup;have hub:u1<=1000001:=by simp only at hn;omega
 have Jh7:1<=u1:=by omega
 have H:=zz (hup w2 k2);have J9:=zz k2;have HB2:=zz b2;have HW2:=zz hw2;have HC:=zz hc;have Mo:=zz hrow;have Qhy:=zz hgr;have HX:=zz (And.intro hxv (And.intro hxo hval));clear hup k2 b1 b2 hw2 hc hrow hgr hxv hxo hval hnR hR hu2 hx hxe J2m hu1 hv J2l;go_enter Tryz.func133,Tryz.ntmps133
 go_upto_region 1 with fail
 rw [<-HW2.out];go_wp2_with fail
 refine H.out.mono ?_;rintro e w3 ⟨rfl,k3⟩;have HB3:=zz (k3.get HB2.out λx=>x);have Zk:=zz (J9.out.Q0 k3);clear k3 c0 c1 hl1;have hl3:=Q7 HB3.out
 have f0:w3.cell? ⟨cb,0,none⟩=some (.slice (some ⟨g,off,none⟩) n rc):=by
  have:=HC.out.cells.1 w3 Zk.out;rw [Mo.out] at this;exact this
 have Qs4:=zz (Qhy.out w3 Zk.out);have hcb3:=Zk.out.lt hcb;have hg3:=Zk.out.lt hgl;have how:=Q02 x w3 (Qm.X0 HX.out.2.1.rd Zk.out) (by rw [HX.out.1];exact HX.out.2.2);have HOW:=zz how;clear how;go_upto_region 4 with fail
 go_wp2_with (refine Qj rfl 44 _ rfl g (off+u*6) rfl _ _ Qs4 Tryz.underlying44 rfl (by kernel_rfl) ?_)
 refine HOW.out.mono ?_;rintro e w4 ⟨y,hyv,rfl,hyo,Qi5,k4⟩;simp only [Yk,Qv];have HB4:=zz (k4.get HB3.out λx=>x);have hl4:=Q7 HB4.out;have HY:=zz (And.intro hyv (And.intro hyo Qi5));have Gf:=zz k4;clear hyv hyo Qi5 k4 f0;go_wp2_with (refine Zx rfl 44 _ _ rfl (w.heap.size+1) _ rfl rfl 44 _ HB4 (by kernel_rfl) (by rfl) (by rfl) ?_)
 have b5:=Uu (cs:= #[.int .i64 y.v.m, .int .i64 y.v.c, .int .i64 y.v.o,y.sl, .bool y.v.gone, .int .i64 y.v.ttl]) HB4.out;have d0:=Q4 b5 0;have d1:=Q4 b5 1;have d2:=Q4 b5 2;have d3:=Q4 b5 3;have d4:=Q4 b5 4;have d5:=Q4 b5 5;simp at d0 d1 d2 d3 d4 d5
 have k5:Kp (Mer.One (w.heap.size+1)) w4 (w4.setRow (w.heap.size+1) #[.int .i64 y.v.m, .int .i64 y.v.c, .int .i64 y.v.o,y.sl, .bool y.v.gone, .int .i64 y.v.ttl]):=(Kp.refl (Mer.One (w.heap.size+1)) _).setRow (.inl (show Mer.One (w.heap.size+1) (w.heap.size+1) from rfl)) _;refine bodyPost_ret (v:= .tuple #[.agg #[.int .i64 y.v.m, .int .i64 y.v.c, .int .i64 y.v.o,y.sl, .bool y.v.gone, .int .i64 y.v.ttl], .bool true]) (by simp [results,Tryz.results133,go_sem,d0,d1,d2,d3,d4,d5]) rfl ⟨y,?_,rfl,?_,?_,?_⟩
 ·rw [HY.out.1,HX.out.1]
 ·exact HY.out.2.1.apart k5 λgg hg cur J5=>by
   have e:gg=w.heap.size+1:=hg;rw [e,HB4.out] at J5;injection J5 with J5;injection J5 with _ ht;exact absurd ht (by decide)
 ·intro gg hg;have:=HY.out.2.2 gg hg;have:=Zk.out.size;omega
 ·exact (Zk.out.Q0 Gf.out).setRow (.inr (by omega)) _
def Qtn (w:World) (o:Option (List UInt8)) (e:Ending) (w':World):Prop:=
 match o with
 |none=>e= .returned (.tuple #[.slice none 0 0, .bool false])/\Kp No w w'
 |some l=> ∃a cap,e= .returned (.tuple #[.slice a l.length cap, .bool true])/\Own w' 5 1 (.slice a l.length cap) l.length (u8s l)/\(∀g,(Value.slice a l.length cap).ownBlock=some g->w.heap.size<=g)/\Kp No w w'
def Qcl (o:Option Qo) (m c:Int):Option (List UInt8):=match o with|none=>none|some v=>if N8 v m c=true then some v.val else none
theorem I6 (l:List Qo) (m c:Int):Uh l m c=Qcl (Qau l m c) m c:=rfl
theorem Qen {v:Qo} {m c:Int} (h:N8 v m c=true):Qcl (some v) m c=some v.val:=if_pos h
theorem Qnf {v:Qo} {m c:Int} (h:N8 v m c=false):Qcl (some v) m c=none:=if_neg (by rw [h];decide)
theorem Q6s (w:World) (p:Option Addr) (m c:Int) (o:Option Qo) (hm:m<=9223372036854775807) (h: ∀W,Kp No w W->Calls Tryz.prog 133 #[.pointer p,Xl m c] W (AtP W o)) (hv: ∀v,o=some v->X8 v=true):
  Calls Tryz.prog 79 #[.pointer p,Xl m c] w (Qtn w (Qcl o m c)):=by
 obtain ⟨w1,hw1⟩: ∃W,W=w.alloc (.cells #[.int .i64 m, .int .i64 c] 25):=⟨_,rfl⟩;have k1:Kp No w w1:=by rw [hw1];exact zK.alloc _
 have b1:w1.heap[w.heap.size]?=some (.cells #[.int .i64 m, .int .i64 c] 25 (0,0)):=by rw [hw1];exact heap_alloc_new w _
 have c0:w1.cell? ⟨w.heap.size,0,none⟩=some (.int .i64 m):=Q4 b1 0;have c1:w1.cell? ⟨w.heap.size,1,none⟩=some (.int .i64 c):=Q4 b1 1;have hl1:=Q7 b1;have H:=zz (h w1 k1);have Yq:=zz k1;have HB1:=zz b1;have HW1:=zz hw1;clear h k1 b1 hw1;cases o with
 |none=>
  go_enter Tryz.func79,Tryz.ntmps79
  go_upto_region 1 with fail
  rw [<-HW1.out];go_wp2_with fail
  refine H.out.mono ?_;rintro e w3 ⟨rfl,k3⟩;have Zk:=zz (Yq.out.Q0 k3);clear k3 c0 c1 hl1;go_wp2_with fail
  go_ret2
  exact ⟨rfl,Zk.out.alloc _⟩
 |some v=>
  have hvv:=hv v rfl;have HVV:=zz hvv;clear hv hvv;go_enter Tryz.func79,Tryz.ntmps79
  go_upto_region 1 with fail
  rw [<-HW1.out];go_wp2_with fail
  refine H.out.mono ?_;rintro e w3 ⟨y,hyv,rfl,hyo,Qi5,k3⟩;simp only [Yk,Qv];have Zk:=zz (Yq.out.Q0 k3);have HB3:=zz (k3.get HB1.out λx=>x);have HY:=zz (And.intro hyv (And.intro hyo (λg hg=>Nat.le_trans Yq.out.size (Qi5 g hg))));have Jie:=zz Qi5;clear k3 c0 c1 hl1 hyv hyo Qi5;go_upto_region 2 with (refine Qy rfl 44 _ _ rfl w3.heap.size (by rfl) _ _ _ rfl rfl (by kernel_rfl) (by rfl) (by rfl) ?_)
  obtain ⟨w5,hw5⟩: ∃W,W=w3.alloc (.cells #[.int .i64 y.v.m, .int .i64 y.v.c, .int .i64 y.v.o,y.sl, .bool y.v.gone, .int .i64 y.v.ttl] 44):=⟨_,rfl⟩;have k5:Kp No w3 w5:=by rw [hw5];exact zK.alloc _
  have b5:w5.heap[w3.heap.size]?=some (.cells #[.int .i64 y.v.m, .int .i64 y.v.c, .int .i64 y.v.o,y.sl, .bool y.v.gone, .int .i64 y.v.ttl] 44 (0,0)):=by rw [hw5];exact heap_alloc_new w3 _
  rw [<-hw5];have d0:w5.cell? ⟨w3.heap.size,0,none⟩=some (.int .i64 y.v.m):=Q4 b5 0;have d1:w5.cell? ⟨w3.heap.size,1,none⟩=some (.int .i64 y.v.c):=Q4 b5 1;have d2:w5.cell? ⟨w3.heap.size,2,none⟩=some (.int .i64 y.v.o):=Q4 b5 2;have d3:w5.cell? ⟨w3.heap.size,3,none⟩=some y.sl:=Q4 b5 3;have d4:w5.cell? ⟨w3.heap.size,4,none⟩=some (.bool y.v.gone):=Q4 b5 4;have d5:w5.cell? ⟨w3.heap.size,5,none⟩=some (.int .i64 y.v.ttl):=Q4 b5 5;have c0:w5.cell? ⟨w.heap.size,0,none⟩=some (.int .i64 m):=Q4 (k5.get HB3.out λx=>x) 0;have c1:w5.cell? ⟨w.heap.size,1,none⟩=some (.int .i64 c):=Q4 (k5.get HB3.out λx=>x) 1;have hl5:=Q7 b5;have Jgr:=Q7 (k5.get HB3.out λx=>x);have Vb:=zz k5;have Q2u:=zz b5;have hsn:=Qfe y (by rw [HY.out.1];exact HVV.out) m c hm w5;rw [HY.out.1] at hsn;have Qzi:=zz hsn;clear hw5 k5 b5 hsn;cases hse:N8 v m c with
  |true=>
   have Qip:=zz hse;clear hse;go_wp2_with fail
   refine Qzi.out.mono ?_;rintro e w6 ⟨rfl,k6⟩;rw [Qip.out];have h3:w6.cell? ⟨w3.heap.size,3,none⟩=some y.sl:=Q4 (k6.get Q2u.out λx=>x) 3;have Qxy:=Q7 (k6.get Q2u.out λx=>x);have Fw:=zz k6;clear k6 d0 d1 d2 d3 d4 d5 c0 c1;go_wp2_with fail
   go_ret2
   rw [Qen Qip.out,<-HY.out.1];exact ⟨y.a,y.cap,rfl,(HY.out.2.1.keep Vb.out λ_ _ x=>x).keep Fw.out λ_ _ x=>x,HY.out.2.2,(Zk.out.Q0 Vb.out).Q0 Fw.out⟩
  |false=>
   have Qip:=zz hse;clear hse;go_wp2_with fail
   refine Qzi.out.mono ?_;rintro e w6 ⟨rfl,k6⟩;rw [Qip.out];have Fw:=zz k6;clear k6 d0 d1 d2 d3 d4 d5 c0 c1;go_wp2_with fail
   go_ret2
   rw [Qnf Qip.out];exact ⟨rfl,(Zk.out.Q0 Vb.out).Q0 Fw.out⟩
def Cm (x:Qe):Value:= .agg (recC x).toArray
structure Qzy (r:Qu):Prop where
 st:Za r.v.m r.v.c=true
 o0:0<=r.o
 o5:r.o<5
 q1:1<=r.seq
 q2:r.seq<=1099511627776
 k1:1<=(r.key.size:Int)
 k2:(r.key.size:Int)<=64
 oo:r.v.o=r.o
 vl:(r.v.val.length:Int)<=1024
 t0:0<=r.v.ttl
 t1:r.v.ttl<=281474976710655
 gg:r.v.gone=true->(r.v.val.length:Int)=0/\r.v.ttl=0
theorem Q0m {r:Qu}:Z4 r=true↔Qzy r:=by
 rw [Y9,Zi,<-Zw];constructor
 ·rintro ⟨⟨st,o0,o5,vl,t0,t1,gg⟩,oo,q1,q2,k1,k2⟩;exact ⟨st,by omega,by omega,q1,q2,by omega,by omega,oo,by omega,t0,t1,λh=>⟨by have:=gg h;omega,(gg h).2⟩⟩
 ·rintro ⟨st,o0,o5,q1,q2,k1,k2,oo,vl,t0,t1,gg⟩;exact ⟨⟨st,by omega,by omega,by omega,t0,t1,λh=>⟨by have:=gg h;omega,(gg h).2⟩⟩,oo,q1,q2,by omega,by omega⟩
theorem Ur {r:Qu} (h: ¬Qzy r):Z4 r=false:=by
 cases hh:Z4 r with
 |false=>rfl
 |true=>exact absurd (Q0m.1 hh) h
theorem J3 {p q:Prop} [Decidable p] [Decidable q] (h:p↔q) {b:Bool} (hp:decide p=b):decide q=b:=by rw [<-hp];exact decide_eq_decide.2 h.symm
theorem K8 {n:Nat} {b:Bool} (h:((n:Int)==0)=b):(n==0)=b:=by
 rw [<-h];cases n with
 |zero=>rfl
 |succ k=>
  have e:(((k+1:Nat):Int)==0)=false:=by rw [beq_eq_false_iff_ne];omega
  rw [e];rfl
theorem Q8s (x:Qe) (w:World):Calls Tryz.prog 109 #[Cm x] w λe w'=>e= .returned (.bool (Z4 x.r))/\Kp No w w':=by
 obtain ⟨r,a,cap⟩:=x;unfold Cm recC Qe.sl;simp only
 cases b1:Za r.v.m r.v.c with
 |false=>exact Qr9 r a cap w (zz b1) (zz (Ur λh=>absurd h.st (by rw [b1];decide)))
 |true=>
 cases d1:decide (0<=r.o) with
 |false=>exact Qqw r a cap w (zz b1) d1 (zz (Ur λh=>of_decide_eq_false d1 h.o0))
 |true=>
 cases d2:decide (r.o<5) with
 |false=>exact Qqx r a cap w (zz b1) d1 d2 (zz (Ur λh=>of_decide_eq_false d2 h.o5))
 |true=>
 cases d3:decide (1<=r.seq) with
 |false=>exact Qqy r a cap w (zz b1) d1 d2 d3 (zz (Ur λh=>of_decide_eq_false d3 h.q1))
 |true=>
 cases d4:decide (r.seq<=1099511627776) with
 |false=>exact Qqz r a cap w (zz b1) d1 d2 d3 d4 (zz (Ur λh=>of_decide_eq_false d4 h.q2))
 |true=>
 cases d5:decide (1<=(r.key.size:Int)) with
 |false=>exact Qr0 r a cap w (zz b1) d1 d2 d3 d4 d5 (J3 (by omega) d5) (zz (Ur λh=>of_decide_eq_false d5 h.k1))
 |true=>
 cases d6:decide ((r.key.size:Int)<=64) with
 |false=>exact Qr1 r a cap w (zz b1) d1 d2 d3 d4 d5 (J3 (by omega) d5) d6 (J3 (by omega) d6) (zz (Ur λh=>of_decide_eq_false d6 h.k2))
 |true=>
 cases d7:(r.v.o==r.o) with
 |false=>exact Qr2 r a cap w (zz b1) d1 d2 d3 d4 d5 (J3 (by omega) d5) d6 (J3 (by omega) d6) d7 (zz (Ur λh=>ne_of_beq_false d7 h.oo))
 |true=>
 cases d8:decide ((r.v.val.length:Int)<=1024) with
 |false=>exact Qr3 r a cap w (zz b1) d1 d2 d3 d4 d5 (J3 (by omega) d5) d6 (J3 (by omega) d6) d7 d8 (J3 (by omega) d8) (zz (Ur λh=>of_decide_eq_false d8 h.vl))
 |true=>
 cases d9:decide (0<=r.v.ttl) with
 |false=>exact Qr4 r a cap w (zz b1) d1 d2 d3 d4 d5 (J3 (by omega) d5) d6 (J3 (by omega) d6) d7 d8 (J3 (by omega) d8) d9 (zz (Ur λh=>of_decide_eq_false d9 h.t0))
 |true=>
 cases da:decide (r.v.ttl<=281474976710655) with
 |false=>exact Qr5 r a cap w (zz b1) d1 d2 d3 d4 d5 (J3 (by omega) d5) d6 (J3 (by omega) d6) d7 d8 (J3 (by omega) d8) d9 da (zz (Ur λh=>of_decide_eq_false da h.t1))
 |true=>
 rcases Bool.eq_false_or_eq_true r.v.gone with db|db
 rotate_left
 ·exact Qr6 r a cap w (zz b1) d1 d2 d3 d4 d5 (J3 (by omega) d5) d6 (J3 (by omega) d6) d7 d8 (J3 (by omega) d8) d9 da db (zz (Q0m.2 ⟨b1,of_decide_eq_true d1,of_decide_eq_true d2,of_decide_eq_true d3,of_decide_eq_true d4,of_decide_eq_true d5,of_decide_eq_true d6,eq_of_beq d7,of_decide_eq_true d8,of_decide_eq_true d9,of_decide_eq_true da,λh=>absurd h (by rw [db];decide)⟩))
 cases dc:((r.v.val.length:Int)==0) with
 |false=>exact Qr7 r a cap w (zz b1) d1 d2 d3 d4 d5 (J3 (by omega) d5) d6 (J3 (by omega) d6) d7 d8 (J3 (by omega) d8) d9 da db dc (K8 dc) (zz (Ur λh=>ne_of_beq_false dc (h.gg db).1))
 |true=>
 cases dd:(r.v.ttl==0) with
 |false=>exact Qr8 r a cap w (zz b1) d1 d2 d3 d4 d5 (J3 (by omega) d5) d6 (J3 (by omega) d6) d7 d8 (J3 (by omega) d8) d9 da db dc (K8 dc) dd (zz (Ur λh=>ne_of_beq_false dd (h.gg db).2))
 |true=>
 exact Qmq r a cap w (zz b1) d1 d2 d3 d4 d5 (J3 (by omega) d5) d6 (J3 (by omega) d6) d7 d8 (J3 (by omega) d8) d9 da db dc (K8 dc) dd (zz (Q0m.2 ⟨b1,of_decide_eq_true d1,of_decide_eq_true d2,of_decide_eq_true d3,of_decide_eq_true d4,of_decide_eq_true d5,of_decide_eq_true d6,eq_of_beq d7,of_decide_eq_true d8,of_decide_eq_true d9,of_decide_eq_true da,λ_=>⟨eq_of_beq dc,eq_of_beq dd⟩⟩))
end Go.Proofs.YtgnkmjeoaoongaaGreatDoor
