/- store -/
import Derived.Test.YtgnkmjeoaoongaaGreatDoorVc5
set_option maxRecDepth 100000
set_option maxHeartbeats 4000000
namespace Go.Proofs.YtgnkmjeoaoongaaGreatDoor
open Go.RowKit Go.Mer
theorem Qno (x:Qm) (w:World) (hx:x.rd w) (hl:x.v.val.length<=140737488355328):
  Calls Tryz.prog 132 #[Yk x] w λe w'=> ∃y:Qm,y.v=x.v/\e= .returned (Yk y)/\y.ok w'/\(∀g,y.sl.ownBlock=some g->w.heap.size<=g)/\Kp No w w':=by
 obtain ⟨v,a,cap⟩:=x;obtain ⟨hR,hc,_⟩:=hx;simp only at hR hc hl⊢
 unfold Yk Qv Qm.sl;simp only
 obtain ⟨W2,hW2⟩: ∃W,W=(w.alloc (.cells #[.int .i64 v.m, .int .i64 v.c, .int .i64 v.o, .slice a v.val.length cap, .bool v.gone, .int .i64 v.ttl] 44)).alloc (.cells #[.int .i64 0, .int .i64 0, .int .i64 0, .slice none 0 0, .bool false, .int .i64 0] 44):=⟨_,rfl⟩;have k2:Kp No w W2:=by rw [hW2];exact (zK.alloc _).alloc _
 have b1:W2.heap[w.heap.size]?=some (.cells #[.int .i64 v.m, .int .i64 v.c, .int .i64 v.o, .slice a v.val.length cap, .bool v.gone, .int .i64 v.ttl] 44 (0,0)):=by rw [hW2];exact Jm (heap_alloc_new w _) _
 have b2:W2.heap[w.heap.size+1]?=some (.cells #[.int .i64 0, .int .i64 0, .int .i64 0, .slice none 0 0, .bool false, .int .i64 0] 44 (0,0)):=by rw [hW2];exact (congrArg (λk=>((w.alloc _).alloc _).heap[k]?) (by simp)).trans (heap_alloc_new (w.alloc _) _)
 have hal:Kp No W2 (W2.alloc (.cells #[] 5)):=zK.alloc _;have hown0:Own (W2.alloc (.cells #[] 5)) 5 1 (.slice (some ⟨W2.heap.size,0,none⟩) 0 0) 0 []:=Own.made W2 5 1 #[] 0 0 (Nat.le_refl _) (by simp [maxLen]) (by simp) rfl
 have hsrc:Mer.Src (W2.alloc (.cells #[] 5)) 1 (.slice a v.val.length cap) v.val.length (u8s v.val):=⟨by simp [Yj],a,cap,rfl,λhx=>by
  obtain ⟨g,off,h1,h2,h3,h4⟩:=Rd.kp hR k2 hx;exact ⟨g,off,h1,by simp;omega,Nat.le_refl _,λj u hu=>(hal.cell (p:=⟨g,off+j,none⟩) (by show g<_;omega) (λx=>x)).trans (h4 j u hu)⟩⟩
 obtain ⟨i0,hi,hz0,hz1,hz2⟩:=info_parts infoByte
 obtain ⟨u,w3,hrun,hown,hkp,hblk⟩:=Z0 (P:=Tryz.prog) (w:=W2.alloc (.cells #[] 5)) 42 42 42 5 i0 (.int .u8 0) 1 1 Tryz.underlying42 ⟨_,Tryz.underlying42⟩ hi hz0 hz1 hz2 rfl
  (.slice (some ⟨W2.heap.size,0,none⟩) 0 0) 0 [] hown0 (.slice a v.val.length cap) v.val.length (u8s v.val) hsrc (Om v.val) (by simp only [maxLen];omega) (by omega)
 rw [Nat.zero_add,List.nil_append] at hown;have hk:Kp No W2 w3:=hal.trans hkp (λk hk h=>by simp [Value.ownBlock] at h;omega)
 have hf: ∀g,u.ownBlock=some g->W2.heap.size<=g:=λg hg=>by
  rcases hblk with h|⟨g',h,h'⟩
  ·rw [h] at hg;simp [Value.ownBlock] at hg
   omega
  ·rw [h] at hg;injection hg with hg;simp at h'
   omega
 clear hal hown0 hsrc hi hz0 hz1 hz2 hkp hblk;obtain ⟨n,hn⟩: ∃n,n=v.val.length:=⟨_,rfl⟩;rw [<-hn] at hrun hown b1 hW2⊢;have c3:=Q4 b1 3;have hl1:=Q7 b1;simp at c3
 have HB:=zz (And.intro b1 b2);have J9:=zz k2;obtain ⟨_,a1,c1,rfl,_⟩:=id hown;have Hz:=zz hrun;have HN:=zz hn;have HW2:=zz hW2;have ho:=hown;clear b1 b2 k2 hrun hown hn hR hc hl;have b1:=hk.get HB.out.1 λx=>x;have b2:=hk.get HB.out.2 λx=>x;have f1:=Qh b1 3;have d3:=Q4 b1 3;have hl1:=Q7 b1;simp at d3
 have HB1:=zz b1;have HB2:=zz b2;have HO:=zz (And.intro ho (And.intro (λg hg=>Nat.le_trans J9.out.size (hf g hg)) (J9.out.Q0 hk)));clear ho hf hk b1 b2 HB J9 hW2;go_enter Tryz.func132,Tryz.ntmps132
 go_upto_region 1 with fail
 (try rw [<-HW2.out])
 go_upto_region 2 with (at_builtin;refine wpList_append_run rfl rfl rfl rfl Hz.out ?_)
 obtain ⟨W4,Mz⟩: ∃W,W=w3.setCell ⟨w.heap.size,3,none⟩ (.slice a1 n c1):=⟨_,rfl⟩;have k4:Kp (Mer.One w.heap.size) w3 W4:=by rw [Mz];exact (Kp.refl (Mer.One w.heap.size) _).setCell (p:=⟨w.heap.size,3,none⟩) (.inl (show Mer.One w.heap.size w.heap.size from rfl)) _
 have b4:=Ql HB1.out 3 (.slice a1 n c1);rw [<-Mz] at b4;have HR1:=zz (show W4.rangeAt w.heap.size 0 [.int .i64 v.m, .int .i64 v.c, .int .i64 v.o, .slice a1 n c1, .bool v.gone, .int .i64 v.ttl] from Qg b4 0 6);have HB4:=zz (k4.get HB2.out λe=>by have e:w.heap.size+1=w.heap.size:=e;omega);have Gf:=zz k4;rw [<-Mz];clear Mz k4 b4 f1 d3 hl1
 go_wp2_with (first
  |(refine Qj rfl 44 _ rfl w.heap.size 0 rfl _ _ HR1 Tryz.underlying44 rfl (by kernel_rfl) ?_)
  |(refine Zx rfl 44 _ _ rfl (w.heap.size+1) _ rfl rfl 44 _ HB4 (by kernel_rfl) (by rfl) (by rfl) ?_))
 obtain ⟨W5,C8⟩: ∃W,W=W4.setRow (w.heap.size+1) #[.int .i64 v.m, .int .i64 v.c, .int .i64 v.o, .slice a1 n c1, .bool v.gone, .int .i64 v.ttl]:=⟨_,rfl⟩;have k5:Kp (Mer.One (w.heap.size+1)) W4 W5:=by rw [C8];exact (Kp.refl (Mer.One (w.heap.size+1)) _).setRow (.inl (show Mer.One (w.heap.size+1) (w.heap.size+1) from rfl)) _
 have b5:=Uu (cs:= #[.int .i64 v.m, .int .i64 v.c, .int .i64 v.o, .slice a1 n c1, .bool v.gone, .int .i64 v.ttl]) HB4.out;rw [<-C8] at b5;have d0:=Q4 b5 0;have d1:=Q4 b5 1;have d2:=Q4 b5 2;have d3:=Q4 b5 3;have d4:=Q4 b5 4;have d5:=Q4 b5 5;simp at d0 d1 d2 d3 d4 d5
 (try rw [<-C8])
 have Qsw:Kp (λk=>k=w.heap.size\/k=w.heap.size+1) w3 W5:=(Gf.out.mono λ_ _ h=> .inl h).trans k5 λ_ _ h=> .inr h;refine bodyPost_ret (v:= .agg #[.int .i64 v.m, .int .i64 v.c, .int .i64 v.o, .slice a1 n c1, .bool v.gone, .int .i64 v.ttl]) (by simp [results,Tryz.results132,go_sem,d0,d1,d2,d3,d4,d5]) rfl ⟨⟨v,a1,c1⟩,rfl,?_,?_,?_,?_⟩
 ·rw [show n=_ from HN.out]
 ·have h:Own w3 5 1 (.slice a1 v.val.length c1) v.val.length (u8s v.val):=by rw [<-show n=_ from HN.out];exact HO.out.1
  exact h.keep Qsw λg hg hS=>by
   obtain ⟨cur,E2⟩:=h.type g hg;rcases hS with rfl|rfl
   ·exact Qd E2 HB1.out (by decide) rfl
   ·exact Qd E2 HB2.out (by decide) rfl
 ·intro g hg;rw [<-show n=_ from HN.out] at hg;exact HO.out.2.1 g hg
 ·exact HO.out.2.2.trans Qsw λi hi hS=>by rcases hS with rfl|rfl<;>omega
theorem Qwo {l:List Qo} (hs:Q45 l) {v x:Qo} {k:Nat} (hx:l[k]?=some x) (hk:k<E8 l v):N5 x v<0:=(Q14 _ _).2 ((Q19 hs hx).2 hk)
theorem Qwn {l:List Qo} (hs:Q45 l) {v x:Qo} (hx:l[E8 l v]?=some x) (hh:V8 l v=false):0<N5 x v:=by
 have h1: ¬N5 x v<0:=λh=>by
  have:=(Q19 hs hx).1 ((Q14 _ _).1 h);omega
 have h2:N5 x v≠0:=λh=>by
  obtain ⟨e1,e2,e3⟩:=(Qge _ _).1 h;unfold V8 at hh;rw [hx] at hh;have h3:Bl v x=true:=by simpa using hh
  rw [Hk] at h3;omega
 omega
theorem Qhr {w wz wI:World} {cb k m:Nat} {ra a3:Option Addr} {rc c3:Nat} {R:List Qm} {x:Qo} {y:Qm} (hc:Xr 148 w ⟨cb,ra,rc,R⟩) (hk:k=E8 (R.map Qm.v) x) (hz:Kp No w wI) (hrow:Jd 44 6 Qv wz wI (.slice a3 m c3) m (R.take k++y::R.drop k)) (hzw:w.heap.size<=wz.heap.size) (hy:y.v=x) (hyo:y.ok wI)
  (hyn: ∀g,y.sl.ownBlock=some g->w.heap.size<=g):Qf5 148 ⟨cb,ra,rc,R⟩ ⟨cb,a3,c3,R.take k++y::R.drop k⟩ x w (wI.setCell ⟨cb,0,none⟩ (.slice a3 m c3)):=by
 have hcI:=hc.Q9 hz;have hs:Kp (Mer.One cb) wI (wI.setCell ⟨cb,0,none⟩ (.slice a3 m c3)):=(Kp.refl (Mer.One cb) wI).setCell (p:=⟨cb,0,none⟩) (.inl (show Mer.One cb cb from rfl)) _;obtain ⟨hm,ho,hfr,_⟩:=hrow
 have hnew: ∀g,(Value.slice a3 m c3).ownBlock=some g->g≠cb:=λg hg=>by
  obtain ⟨cur,J5⟩:=ho.type g hg;exact Qd J5 hcI.cell (by decide)
 refine ⟨rfl,?_,⟨?_,?_,λz hz=>?_⟩,(Kp.Qx hz).trans hs λi _ e=> .inl e, .inr ?_,λz hz=>?_⟩
 ·unfold Zs.vs E0;simp only
  rw [<-hk,List.map_append,List.map_cons,List.map_take,List.map_drop,hy]
 ·have:=Ql hcI.cell 0 (.slice a3 m c3);unfold Zs.row;simp only
  rw [<-hm];simpa using this
 ·unfold Zs.row;simp only
  rw [<-hm];exact ho.keep hs λg hg e=>hnew g hg e
 ·have hok:z.ok wI:=by
   rcases List.mem_append.1 hz with hz|hz
   ·exact hcI.vals z (List.mem_of_mem_take hz)
   ·rcases List.mem_cons.1 hz with rfl|hz
    ·exact hyo
    ·exact hcI.vals z (List.mem_of_mem_drop hz)
  exact hok.keep hs λg hg e=>by
   obtain ⟨cur,J5⟩:=Own.type hok g hg;exact Qd J5 hcI.cell (by decide) e
 ·have hpos:0<m:=by rw [hm,List.length_append,List.length_cons];omega
  unfold Zs.row;simp only
  obtain ⟨_,a,cap,e,h1,h2,h3,h4⟩:=id ho;injection e with e1 _ e3;subst e1;subst e3;cases ha:a3 with
  |none=>have:=h3 ha;omega
  |some ad=>
   obtain ⟨g,off,cur,rfl,_⟩:=h4 ad ha;exact ⟨g,rfl,by have:=hfr g (by rw [ha];rfl);omega⟩
 ·rcases List.mem_append.1 hz with hz|hz
  ·exact .inl (List.mem_of_mem_take hz)
  ·rcases List.mem_cons.1 hz with rfl|hz
   ·exact .inr hyn
   ·exact .inl (List.mem_of_mem_drop hz)
theorem Qhq (w:World) (c:Zs) (x:Qm) (hc:Xr 148 w c) (hs:Q45 c.vs) (hx:x.rd w) (hv:X8 x.v=true) (hh:V8 c.vs x.v=false) (hn:c.R.length<=1000000):
  Calls Tryz.prog 77 #[.pointer (some ⟨c.b,0,none⟩),Yk x] w λe w'=>e= .returned (.int .i64 0)/\ ∃c',Qf5 148 c c' x.v w w':=by
 obtain ⟨cb,ra,rc,R⟩:=c;obtain ⟨n,hnR⟩: ∃n,n=R.length:=⟨_,rfl⟩
 have hcl:n<=rc:=by
  obtain ⟨_,a,cap,e,h1,_⟩:=hc.own;unfold Zs.row at e;injection e with _ _ e3;have e3:rc=cap:=e3;rw [e3,hnR];exact h1
 have hrow:(⟨cb,ra,rc,R⟩:Zs).row= .slice ra n rc:=by unfold Zs.row;rw [hnR]
 have hR:Rd w w.heap.size ra (R.flatMap Qv):=by have:=Own.rd' (a:=ra) (cap:=rc) (m:=R.length) hc.own;exact this
 obtain ⟨w1,hw1⟩: ∃W,W=w.alloc (.cells #[.int .i64 x.v.m, .int .i64 x.v.c, .int .i64 x.v.o,x.sl, .bool x.v.gone, .int .i64 x.v.ttl] 44):=⟨_,rfl⟩;have k1:Kp No w w1:=by rw [hw1];exact zK.alloc _
 have bx:w1.heap[w.heap.size]?=some (.cells #[.int .i64 x.v.m, .int .i64 x.v.c, .int .i64 x.v.o,x.sl, .bool x.v.gone, .int .i64 x.v.ttl] 44 (0,0)):=by rw [hw1];exact heap_alloc_new w _
 obtain ⟨b,hb⟩: ∃b,b=w.heap.size:=⟨_,rfl⟩;rw [<-hb] at bx;have hcb:=Q7 hc.cell;simp only at hcb
 obtain ⟨p,hp⟩: ∃p,p=E8 (R.map Qm.v) x.v:=⟨_,rfl⟩;have hpn:p<=n:=by rw [hp,hnR];have:=Ag (R.map Qm.v) x.v;rwa [List.length_map] at this
 have RB:=zz (show ∀W,Kp No w1 W->W.rangeAt b 0 (Qv x) from λW hW=>by have:=Qg (hW.get bx λx=>x) 0 6;exact this);have HV:=zz (Fv x w1);have Jar:=zz hv;have H:=zz (And.intro hc (And.intro hrow (And.intro (show Q45 (R.map Qm.v) from hs) (And.intro hx (And.intro (show V8 (R.map Qm.v) x.v=false from hh) (And.intro hp (And.intro hnR (And.intro hR k1))))))));have HW1:=zz hw1;have HB:=zz hb;have hnn:n<=1000000:=by simp only at hn;omega
 have Qki:=k1.lt hcb;have hbl:=Q7 bx;simp only [Yk,Qv];clear hc hs hx hv hh hn hnR hrow hR hw1 k1 bx hb hp hcb;go_enter Tryz.func77,Tryz.ntmps77
 go_upto_region 1 with fail
 rw [<-HB.out,<-HW1.out];have Jav:=zz (RB.out w1 zK);simp only [Qv] at Jav;go_wp2_with (refine Qj rfl 44 _ rfl b 0 rfl _ _ Jav Tryz.underlying44 rfl (by kernel_rfl) ?_)
 refine HV.out.mono ?_;rintro e w2 ⟨rfl,k2⟩;rw [Jar.out];have J9:=zz k2;clear k2;go_wp2_with fail
 go_loopw [5] (λi wr=> ∃k:Nat,k<=p/\i= .int .i64 (k:Int)/\Hid (Kp No w1 wr)) (λi _=>p-(intOf i).toNat)
 case atStart=>exact ⟨0,Nat.zero_le _,rfl,J9⟩
 case round=>
  obtain ⟨k,hk,rfl,HK⟩:=hrel;have hcr:=HK.out.lt Qki;have hbr:=HK.out.lt hbl;rcases Nat.lt_or_ge k p with hlt|hge
  ·have hkn:k<n:=by omega
   have hkR:k<R.length:=by have:=H.out.2.2.2.2.2.2.1;omega
   obtain ⟨g,off,rfl,hgl,hgr⟩:=Vz H.out.2.2.2.2.2.2.2.1 hkR;have Qtb:(R.map Qm.v)[k]?=some R[k].v:=by rw [List.getElem?_map,List.getElem?_eq_getElem hkR];rfl
   have hz0:=Qwo H.out.2.2.1 Qtb (by rw [<-H.out.2.2.2.2.2.1];exact hlt);obtain ⟨z,hz⟩: ∃z,z=R[k]:=⟨_,rfl⟩;rw [<-hz] at hgr hz0;have RZ:=zz (show ∀W,Kp No wr W->W.rangeAt g (off+k*6) (Qv z) from λW hW=>hgr W ((H.out.2.2.2.2.2.2.2.2.Q0 HK.out).Q0 hW))
   have cw: ∀W,Kp No wr W->W.cell? ⟨cb,0,none⟩=some (.slice (some ⟨g,off,none⟩) n rc):=λW hW=>by
    have:=H.out.1.cells.1 W ((H.out.2.2.2.2.2.2.2.2.Q0 HK.out).Q0 hW);rw [H.out.2.1] at this;exact this
   obtain ⟨q,hq⟩: ∃q,q=N5 z.v x.v:=⟨_,rfl⟩;have HO:=zz (show ∀W,Calls Tryz.prog 131 #[Yk z,Yk x] W λe w'=>e= .returned (.int .i64 q)/\Kp No W w' from λW=>by rw [hq];exact Q27 z x W);rw [<-hq] at hz0;have d0:decide (q<0)=true:=decide_eq_true hz0;clear hgr Qtb hz hq hkR hgl hz0;go_upto_region 4 with fail
   refine zD No [0,0,0,0,0,1,0,0,0,0,0,0,0,0,0,0,2,0,0] [0,1,2,3,4,5,6,7,8,9,10,11,12,13,14,15,16,17,18] ?_;repeat (first|refine zA ?_|refine zB ?_|refine zC ?_)
   apply Qb rfl rfl rfl
   ·intro W hW;exact Qc 44 _ rfl g (off+k*6) rfl (Qv z) _ (RZ.out W hW) Tryz.underlying44 rfl (by kernel_rfl)
   ·(focus (go_simp;rfl))
   repeat (first|refine zA ?_|refine zB ?_|refine zC ?_)
   apply Qb rfl rfl rfl
   ·intro W hW;exact Qc 44 _ rfl b 0 rfl (Qv x) _ (RB.out W (HK.out.Q0 hW)) Tryz.underlying44 rfl (by kernel_rfl)
   ·(focus (go_simp;rfl))
   refine Q8 rfl rfl (λn1=>?_);go_wp2_with fail
   refine (HO.out _).mono ?_;rintro e wa ⟨rfl,Ln⟩;have ka:Kp No wr wa:=Ln.Qf;clear Ln;go_wp2_with fail
   (try refine ⟨ka,?_⟩)
   repeat (first|refine zA ?_|refine zB ?_|refine zC ?_)
   refine Qa (λnq=>?_);have Dc:=zz ((HK.out.Q0 ka).drewN nq);clear ka cw;go_wp2_with fail
   go_roundw
   case rel=>exact ⟨k+1,hlt,by go_num,Dc⟩
   case measure=>simp [intOf];omega
  ·obtain rfl:k=p:=by omega
   clear hge;rcases Nat.lt_or_ge k n with hkn|hkn
   have hkR:k<R.length:=by have:=H.out.2.2.2.2.2.2.1;omega
   obtain ⟨g,off,rfl,hgl,hgr⟩:=Vz H.out.2.2.2.2.2.2.2.1 hkR;have Qtb:(R.map Qm.v)[k]?=some R[k].v:=by rw [List.getElem?_map,List.getElem?_eq_getElem hkR];rfl
   have hz0:=Qwn H.out.2.2.1 (x:=R[k].v) (by rw [<-H.out.2.2.2.2.2.1];exact Qtb) H.out.2.2.2.2.1;obtain ⟨z,hz⟩: ∃z,z=R[k]:=⟨_,rfl⟩;rw [<-hz] at hgr hz0;have RZ:=zz (show ∀W,Kp No wr W->W.rangeAt g (off+k*6) (Qv z) from λW hW=>hgr W ((H.out.2.2.2.2.2.2.2.2.Q0 HK.out).Q0 hW))
   have cw: ∀W,Kp No wr W->W.cell? ⟨cb,0,none⟩=some (.slice (some ⟨g,off,none⟩) n rc):=λW hW=>by
    have:=H.out.1.cells.1 W ((H.out.2.2.2.2.2.2.2.2.Q0 HK.out).Q0 hW);rw [H.out.2.1] at this;exact this
   obtain ⟨q,hq⟩: ∃q,q=N5 z.v x.v:=⟨_,rfl⟩;have HO:=zz (show ∀W,Calls Tryz.prog 131 #[Yk z,Yk x] W λe w'=>e= .returned (.int .i64 q)/\Kp No W w' from λW=>by rw [hq];exact Q27 z x W);rw [<-hq] at hz0;have d0:decide (q<0)=false:=decide_eq_false (by omega);have d1:(q==0)=false:=by rw [beq_eq_false_iff_ne];omega
   have d2: ¬q=0:=by omega
   clear hgr Qtb hz hq hkR hgl hz0;go_upto_region 4 with fail
   refine zD No [0,0,0,0,0,1,0,0,0,0,0,0,0,0,0,0,2,0,0] [0,1,2,3,4,5,6,7,8,9,10,11,12,13,14,15,16,17,18] ?_;repeat (first|refine zA ?_|refine zB ?_|refine zC ?_)
   apply Qb rfl rfl rfl
   ·intro W hW;exact Qc 44 _ rfl g (off+k*6) rfl (Qv z) _ (RZ.out W hW) Tryz.underlying44 rfl (by kernel_rfl)
   ·(focus (go_simp;rfl))
   repeat (first|refine zA ?_|refine zB ?_|refine zC ?_)
   apply Qb rfl rfl rfl
   ·intro W hW;exact Qc 44 _ rfl b 0 rfl (Qv x) _ (RB.out W (HK.out.Q0 hW)) Tryz.underlying44 rfl (by kernel_rfl)
   ·(focus (go_simp;rfl))
   refine Q8 rfl rfl (λn1=>?_);go_wp2_with fail
   refine (HO.out _).mono ?_;rintro e wa ⟨rfl,Ln⟩;have ka:Kp No wr wa:=Ln.Qf;clear Ln;go_wp2_with fail
   (try refine ⟨ka,?_⟩)
   repeat (first|refine zA ?_|refine zB ?_|refine zC ?_)
   refine Qa (λnq=>?_);obtain ⟨wb,hwb⟩: ∃W,W=wa.drewN nq:=⟨_,rfl⟩;have kb:Kp No wr wb:=by rw [hwb];exact ka.drewN nq
   rw [<-hwb];clear hwb ka;have J6h: ∀W,Kp No wb W->W.cell? ⟨cb,0,none⟩=some (.slice (some ⟨g,off,none⟩) n rc):=λW hW=>cw W (kb.Q0 hW);have hcb2:=kb.lt hcr;have Qv6:=kb.lt hbr;clear cw;go_upto_region 6 with fail
   refine zD No [0,0,0,0,0,1,0,0,0,0,0,0,0,0,0,0,2,0,0] [0,1,2,3,4,5,6,7,8,9,10,11,12,13,14,15,16,17,18] ?_;repeat (first|refine zA ?_|refine zB ?_|refine zC ?_)
   apply Qb rfl rfl rfl
   ·intro W hW;exact Qc 44 _ rfl g (off+k*6) rfl (Qv z) _ (RZ.out W (kb.Q0 hW)) Tryz.underlying44 rfl (by kernel_rfl)
   ·(focus (go_simp;rfl))
   repeat (first|refine zA ?_|refine zB ?_|refine zC ?_)
   apply Qb rfl rfl rfl
   ·intro W hW;exact Qc 44 _ rfl b 0 rfl (Qv x) _ (RB.out W (HK.out.Q0 (kb.Q0 hW))) Tryz.underlying44 rfl (by kernel_rfl)
   ·(focus (go_simp;rfl))
   refine Q8 rfl rfl (λn1=>?_);go_wp2_with fail
   refine (HO.out _).mono ?_;rintro e wa ⟨rfl,Ln⟩;have ka:Kp No wb wa:=Ln.Qf;clear Ln;go_wp2_with fail
   (try refine ⟨ka,?_⟩)
   repeat (first|refine zA ?_|refine zB ?_|refine zC ?_)
   refine Qa (λnq=>?_);obtain ⟨wz,hwz⟩: ∃W,W=wa.drewN nq:=⟨_,rfl⟩;have KZ:=zz (show Kp No w1 wz by rw [hwz];exact ((HK.out.Q0 kb).Q0 ka).drewN nq);rw [<-hwz];clear hwz ka kb J6h hcb2 Qv6 hcr hbr d0 d1 d2;have Qi2:Rd wz wz.heap.size (some ⟨g,off,none⟩) (R.flatMap Qv):=Rd.kp H.out.2.2.2.2.2.2.2.1 (H.out.2.2.2.2.2.2.2.2.Q0 KZ.out);have Qiq:=zz (show Rd wz wz.heap.size (some ⟨g,off,none⟩) ((R.take k).flatMap Qv) from by have h2:=Qi2.take (k*6);rwa [Yg Qv 6 Zm] at h2)
   have HDR:=zz (show Rd wz wz.heap.size (some ⟨g,off+k*6,none⟩) ((R.drop k).flatMap Qv) from by
    have h2:=Qi2.drop (k*6);rw [Un Qv 6 Zm] at h2;simpa [Option.map,Z8] using h2)
   clear Qi2
   have Qxn: ∀W,Kp No wz W->W.cell? ⟨cb,0,none⟩=some (.slice (some ⟨g,off,none⟩) n rc):=λW hW=>by
    have:=H.out.1.cells.1 W ((H.out.2.2.2.2.2.2.2.2.Q0 KZ.out).Q0 hW);rw [H.out.2.1] at this;exact this
   have htl:(R.take k).length=k:=by have:=H.out.2.2.2.2.2.2.1;rw [List.length_take];omega
   have hdl:(R.drop k).length=(n-k):=by have:=H.out.2.2.2.2.2.2.1;rw [List.length_drop];omega
   have Em:=zz (And.intro htl hdl);have J47:=zz (show ∀W,Kp No wz W->W.rangeAt b 0 (Qv x) from λW hW=>RB.out W (KZ.out.Q0 hW));have Qop:=zz (show k+1+(n-k)=n+1 from by omega);clear htl hdl;have Qvz:k<=rc:=by omega
   have hcz:=KZ.out.lt Qki;have hbz:=KZ.out.lt hbl;rotate_left;obtain rfl:k=n:=by omega
   clear hkn;have J8b: ∀g off,ra=some (⟨g,off,none⟩:Addr)->True:=λ_ _ _=>trivial;clear J8b
   have had:ra=none\/ ∃g off,ra=some ⟨g,off,none⟩:=by
    obtain ⟨_,a,cap,e,_,_,_,h4⟩:=H.out.1.own;unfold Zs.row at e;injection e with e1;have e1:ra=a:=e1;cases ha:a with
    |none=>exact .inl (e1.trans ha)
    |some ad=>
     obtain ⟨g,off,cur,rfl,_⟩:=h4 ad ha;exact .inr ⟨g,off,e1.trans ha⟩
   have cw: ∀W,Kp No wr W->W.cell? ⟨cb,0,none⟩=some (.slice ra k rc):=λW hW=>by
    have:=H.out.1.cells.1 W ((H.out.2.2.2.2.2.2.2.2.Q0 HK.out).Q0 hW);rw [H.out.2.1] at this;exact this
   go_upto_region 4 with fail
   refine zD No [0,0,0,0,0,1,0,0,0,0,0,0,0,0,0,0,2,0,0] [0,1,2,3,4,5,6,7,8,9,10,11,12,13,14,15,16,17,18] ?_;repeat (first|refine zA ?_|refine zB ?_|refine zC ?_)
   refine Zt rfl rfl (by rfl) rfl (λn1=>⟨(Kp.refl No wr).drewN n1,?_⟩);repeat (first|refine zA ?_|refine zB ?_|refine zC ?_)
   refine Qa (λnq=>?_);obtain ⟨wb,hwb⟩: ∃W,W=(wr.drewN n1).drewN nq:=⟨_,rfl⟩;have kb:Kp No wr wb:=by rw [hwb];exact ((Kp.refl No wr).drewN n1).drewN nq
   rw [<-hwb];clear hwb;have J6h: ∀W,Kp No wb W->W.cell? ⟨cb,0,none⟩=some (.slice ra k rc):=λW hW=>cw W (kb.Q0 hW);have hcb2:=kb.lt hcr;have Qv6:=kb.lt hbr;clear cw;go_upto_region 6 with fail
   refine zD No [0,0,0,0,0,1,0,0,0,0,0,0,0,0,0,0,2,0,0] [0,1,2,3,4,5,6,7,8,9,10,11,12,13,14,15,16,17,18] ?_;repeat (first|refine zA ?_|refine zB ?_|refine zC ?_)
   refine Zt rfl rfl (by rfl) rfl (λn1=>⟨(Kp.refl No wb).drewN n1,?_⟩);repeat (first|refine zA ?_|refine zB ?_|refine zC ?_)
   refine Qa (λnq=>?_);obtain ⟨wz,hwz⟩: ∃W,W=(wb.drewN n1).drewN nq:=⟨_,rfl⟩;have KZ:=zz (show Kp No w1 wz by rw [hwz];exact ((HK.out.Q0 kb).drewN n1).drewN nq);rw [<-hwz];clear hwz kb J6h hcb2 Qv6 hcr hbr;rcases had with rfl|⟨g,off,rfl⟩
   have Qi2:Rd wz wz.heap.size none (R.flatMap Qv):=Rd.kp H.out.2.2.2.2.2.2.2.1 (H.out.2.2.2.2.2.2.2.2.Q0 KZ.out);have Qiq:=zz (show Rd wz wz.heap.size none ((R.take k).flatMap Qv) from by have h2:=Qi2.take (k*6);rwa [Yg Qv 6 Zm] at h2)
   have HDR:=zz (show Rd wz wz.heap.size none ((R.drop k).flatMap Qv) from by
    rw [List.drop_of_length_le (by have:=H.out.2.2.2.2.2.2.1;omega)];exact Rd.nil _ _ _)
   clear Qi2
   have Qxn: ∀W,Kp No wz W->W.cell? ⟨cb,0,none⟩=some (.slice none k rc):=λW hW=>by
    have:=H.out.1.cells.1 W ((H.out.2.2.2.2.2.2.2.2.Q0 KZ.out).Q0 hW);rw [H.out.2.1] at this;exact this
   have htl:(R.take k).length=k:=by have:=H.out.2.2.2.2.2.2.1;rw [List.length_take];omega
   have hdl:(R.drop k).length=0:=by have:=H.out.2.2.2.2.2.2.1;rw [List.length_drop];omega
   have Em:=zz (And.intro htl hdl);have J47:=zz (show ∀W,Kp No wz W->W.rangeAt b 0 (Qv x) from λW hW=>RB.out W (KZ.out.Q0 hW));have Qop:=zz (show k+1+0=k+1 from by omega);clear htl hdl;have Qvz:k<=rc:=by omega
   have hcz:=KZ.out.lt Qki;have hbz:=KZ.out.lt hbl;rotate_left;by_cases hrk:rc=k
   have Qi2:Rd wz wz.heap.size (some ⟨g,off,none⟩) (R.flatMap Qv):=Rd.kp H.out.2.2.2.2.2.2.2.1 (H.out.2.2.2.2.2.2.2.2.Q0 KZ.out);have Qiq:=zz (show Rd wz wz.heap.size (some ⟨g,off,none⟩) ((R.take k).flatMap Qv) from by have h2:=Qi2.take (k*6);rwa [Yg Qv 6 Zm] at h2)
   have HDR:=zz (show Rd wz wz.heap.size (some ⟨g,off,none⟩) ((R.drop k).flatMap Qv) from by
    rw [List.drop_of_length_le (by have:=H.out.2.2.2.2.2.2.1;omega)];exact Rd.nil _ _ _)
   clear Qi2
   have Qxn: ∀W,Kp No wz W->W.cell? ⟨cb,0,none⟩=some (.slice (some ⟨g,off,none⟩) k rc):=λW hW=>by
    have:=H.out.1.cells.1 W ((H.out.2.2.2.2.2.2.2.2.Q0 KZ.out).Q0 hW);rw [H.out.2.1] at this;exact this
   have htl:(R.take k).length=k:=by have:=H.out.2.2.2.2.2.2.1;rw [List.length_take];omega
   have hdl:(R.drop k).length=0:=by have:=H.out.2.2.2.2.2.2.1;rw [List.length_drop];omega
   have Em:=zz (And.intro htl hdl);have J47:=zz (show ∀W,Kp No wz W->W.rangeAt b 0 (Qv x) from λW hW=>RB.out W (KZ.out.Q0 hW));have Qop:=zz (show k+1+0=k+1 from by omega);clear htl hdl;have Qvz:k<=rc:=by omega
   have hcz:=KZ.out.lt Qki;have hbz:=KZ.out.lt hbl;rotate_left;have Qi2:Rd wz wz.heap.size (some ⟨g,off,none⟩) (R.flatMap Qv):=Rd.kp H.out.2.2.2.2.2.2.2.1 (H.out.2.2.2.2.2.2.2.2.Q0 KZ.out);have Qiq:=zz (show Rd wz wz.heap.size (some ⟨g,off,none⟩) ((R.take k).flatMap Qv) from by have h2:=Qi2.take (k*6);rwa [Yg Qv 6 Zm] at h2)
   have HDR:=zz (show Rd wz wz.heap.size (some ⟨g,off+k*6,none⟩) ((R.drop k).flatMap Qv) from by
    rw [List.drop_of_length_le (by have:=H.out.2.2.2.2.2.2.1;omega)];exact Rd.nil _ _ _)
   clear Qi2
   have Qxn: ∀W,Kp No wz W->W.cell? ⟨cb,0,none⟩=some (.slice (some ⟨g,off,none⟩) k rc):=λW hW=>by
    have:=H.out.1.cells.1 W ((H.out.2.2.2.2.2.2.2.2.Q0 KZ.out).Q0 hW);rw [H.out.2.1] at this;exact this
   have htl:(R.take k).length=k:=by have:=H.out.2.2.2.2.2.2.1;rw [List.length_take];omega
   have hdl:(R.drop k).length=0:=by have:=H.out.2.2.2.2.2.2.1;rw [List.length_drop];omega
   have Em:=zz (And.intro htl hdl);have J47:=zz (show ∀W,Kp No wz W->W.rangeAt b 0 (Qv x) from λW hW=>RB.out W (KZ.out.Q0 hW));have Qop:=zz (show k+1+0=k+1 from by omega);clear htl hdl;have Qvz:k<=rc:=by omega
   have hcz:=KZ.out.lt Qki;have hbz:=KZ.out.lt hbl
   all_goals
    go_upto_region 8 with fail
    refine zD No [2,0,0,0,0,0,0,2,0,2,2,2,0] [1,2,3,4,5,6,8,0,7,9,10,11,12] ?_;repeat (first|refine zA ?_|refine zB ?_|refine zC ?_)
    apply Qb rfl rfl rfl
    ·intro W hW;exact Qc 44 _ rfl b 0 rfl (Qv x) _ (J47.out W hW) Tryz.underlying44 rfl (by kernel_rfl)
    ·(focus (go_simp;rfl))
    refine Q8 rfl rfl (λn1=>?_);go_wp2_with fail
    obtain ⟨eb,heb⟩: ∃e,e=wz.heap.size:=⟨_,rfl⟩;have hm0:=Jd.made (E:=44) (sz:=6) (f:=Qv) ((Kp.refl No wz).drewN n1);obtain ⟨wA,hwA⟩: ∃W,W=(wz.drewN n1).alloc (.cells #[] 44):=⟨_,rfl⟩;rw [<-hwA] at hm0⊢;have hm0:Jd 44 6 Qv wz wA (.slice (some ⟨eb,0,none⟩) 0 0) 0 []:=by rw [heb];exact hm0
    rw [<-heb];have Qoo:=zz hm0;have Ji9:=zz heb;clear hm0 hwA heb;refine ⟨Qoo.out.2.2.2,?_⟩;repeat (first|refine zA ?_|refine zB ?_|refine zC ?_)
    refine Q8 rfl rfl (λn2=>?_);obtain ⟨wB,hwB⟩: ∃W,W=wA.drewN n2:=⟨_,rfl⟩;have Cd:Kp No wA wB:=by rw [hwB];exact (Kp.refl No wA).drewN n2
    obtain ⟨a1,c1,wC,hrun1,Ql8,_⟩:=Jd.app (P:=Tryz.prog) (T:=68) Tryz.underlying68 Nr Fu (Qoo.out.keep Cd) (R.take k) (Ub (f:=Qv) (c:=rc) Zm (Rd.kp Qiq.out (Qoo.out.2.2.2.Q0 Cd))) rfl (by have:=Em.out.1;unfold maxLen;omega) (by have:=Em.out.1;omega);rw [Nat.zero_add,List.nil_append,Em.out.1] at Ql8;rw [Nat.zero_add,Em.out.1] at hrun1;have Df:=zz hrun1;have HR1:=zz Ql8;rw [<-hwB];clear hwB Cd hrun1 Ql8;refine wpList_append_run rfl rfl rfl rfl Df.out ?_;refine wpList_nil ?_;refine ⟨rfl,HR1.out.2.2.2,?_⟩;repeat (first|refine zA ?_|refine zB ?_|refine zC ?_)
    refine Q8 rfl rfl (λn3=>?_);go_wp2_with fail
    have hxr:x.rd (wC.drewN n3):=Qm.X0 H.out.2.2.2.1 ((H.out.2.2.2.2.2.2.2.2.Q0 KZ.out).Q0 (HR1.out.2.2.2.drewN n3));refine (Qno x _ hxr (by have:=(Zi.1 Jar.out).2.2.2.1;omega)).mono ?_;rintro e wD ⟨⟨yv,ya,yc⟩,hyv,rfl,hyo,hyn,Jco⟩;have hyv:yv=x.v:=hyv;subst hyv;have kD:Kp No wC wD:=Jco.Qf;have J66:=zz (And.intro hyo (And.intro (show ∀g,(Qm.sl ⟨x.v,ya,yc⟩).ownBlock=some g->wC.heap.size<=g from hyn) kD));have J56:=zz (H.out.2.2.2.2.2.2.2.2.Q0 KZ.out);clear hxr hyo hyn Jco;simp only [Yk,Qv,Qm.sl];go_wp2_with fail
    (try refine ⟨HR1.out.2.2.2.Q0 kD,?_⟩)
    clear kD;repeat (first|refine zA ?_|refine zB ?_|refine zC ?_)
    refine Q8 rfl rfl (λn4=>?_);go_wp2_with fail
    obtain ⟨vb,hvb⟩: ∃v,v=wD.heap.size:=⟨_,rfl⟩;obtain ⟨wE,hwE⟩: ∃W,W=(wD.drewN n4).alloc (.cells #[.int .i64 x.v.m, .int .i64 x.v.c, .int .i64 x.v.o, .slice ya x.v.val.length yc, .bool x.v.gone, .int .i64 x.v.ttl] 44):=⟨_,rfl⟩;have kE:Kp No wD wE:=by rw [hwE];exact ((Kp.refl No wD).drewN n4).alloc _
    have bE:wE.heap[vb]?=some (.cells #[.int .i64 x.v.m, .int .i64 x.v.c, .int .i64 x.v.o, .slice ya x.v.val.length yc, .bool x.v.gone, .int .i64 x.v.ttl] 44 (0,0)):=by rw [hwE,hvb];exact heap_alloc_new (wD.drewN n4) _
    have HE:=zz (And.intro (J66.out.2.2.Q0 kE) (And.intro kE bE));rw [<-hwE,<-hvb];clear hwE hvb kE bE;refine ⟨HR1.out.2.2.2.Q0 HE.out.1,?_⟩;repeat (first|refine zA ?_|refine zB ?_|refine zC ?_)
    refine Q8 rfl rfl (λn5=>?_);obtain ⟨wF,hwF⟩: ∃W,W=wE.drewN n5:=⟨_,rfl⟩;have kF:Kp No wE wF:=by rw [hwF];exact (Kp.refl No wE).drewN n5
    obtain ⟨a2,c2,wG,hrun2,Qt3,hk2⟩:=Jd.app (P:=Tryz.prog) (T:=68) Tryz.underlying68 Nr Fu (HR1.out.keep (HE.out.1.Q0 kF)) [(⟨x.v,ya,yc⟩:Qm)] (Of (f:=Qv) Zm (x:=(⟨x.v,ya,yc⟩:Qm)) (kF.get HE.out.2.2 λx=>x) rfl) rfl (by unfold maxLen;omega) (by omega);have Hq:=zz hrun2;have HR2:=zz Qt3;have Jce:Qm.ok ⟨x.v,ya,yc⟩ wF:=Qm.ok.keep J66.out.1 (HE.out.2.1.Q0 kF) λ_ _ x=>x
    have J65:=zz (show Qm.ok ⟨x.v,ya,yc⟩ wG from Qm.ok.apart Jce hk2 λg hg cur J5=>by
     obtain ⟨cu,E2⟩:=(HR1.out.keep (HE.out.1.Q0 kF)).2.1.type g hg;exact Qd J5 E2 (by decide) rfl)
    rw [<-hwF];clear hwF kF hrun2 Qt3 hk2 Jce;refine wpList_append_run rfl rfl rfl rfl Hq.out ?_;refine wpList_nil ?_;refine ⟨rfl,HR2.out.2.2.2,?_⟩;clear Hq;repeat (first|refine zA ?_|refine zB ?_|refine zC ?_)
    refine Qa (λnq=>?_);obtain ⟨wH,J8l⟩: ∃W,W=wG.drewN nq:=⟨_,rfl⟩;have kH:Kp No wG wH:=by rw [J8l];exact (Kp.refl No wG).drewN nq
    have J4v:=HR2.out.2.2.2.Q0 kH;obtain ⟨a3,c3,wI,hrun3,Q0h,hk3⟩:=Jd.app (P:=Tryz.prog) (T:=68) Tryz.underlying68 Nr Fu (HR2.out.keep kH) (R.drop k) (Ub (f:=Qv) (c:=(rc-k)) Zm (Rd.kp HDR.out J4v)) rfl (by have:=Em.out.2;unfold maxLen;omega) (by have:=Em.out.2;omega);first|rw [Em.out.2,Qop.out] at Q0h hrun3|rw [Em.out.2,Nat.add_zero] at Q0h hrun3
    rw [List.append_assoc] at Q0h;have Jcf:Qm.ok ⟨x.v,ya,yc⟩ wH:=Qm.ok.keep J65.out kH λ_ _ x=>x
    have Jcg:Qm.ok ⟨x.v,ya,yc⟩ wI:=Qm.ok.apart Jcf hk3 λg hg cur J5=>by
     obtain ⟨cu,E2⟩:=(HR2.out.keep kH).2.1.type g hg;exact Qd J5 E2 (by decide) rfl
    have J7r:Kp No w wI:=J56.out.Q0 Q0h.2.2.2
    have Qs2:=zz (Qhr H.out.1 H.out.2.2.2.2.2.1 J7r Q0h J56.out.size rfl Jcg λg hg=>by
     have h1:=J66.out.2.1 g hg;have h2:=HR1.out.2.2.2.size;have h3:=J56.out.size;omega)
    have bI:=H.out.1.Q9 J7r;have cI:=Qxn wI Q0h.2.2.2;have fI:=bI.cells.2 wI zK;have lI:=Q7 bI.cell;simp only at lI
    have cH:=Qxn wH J4v;have lH:=J4v.lt hcz;have Qo3:=zz hrun3;rw [<-J8l];clear J8l kH J4v hrun3 Q0h hk3 Jcf Jcg J7r bI Qxn;go_wp2_with (at_builtin;refine wpList_append_run rfl rfl rfl rfl Qo3.out ?_;clear Qo3)
    go_ret
    first
     |exact ⟨rfl,_,Qs2.out⟩
     |(have hdd:=Qs2.out;rw [hrk] at hdd;exact ⟨rfl,_,hdd⟩)
end Go.Proofs.YtgnkmjeoaoongaaGreatDoor
