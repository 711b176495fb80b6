/-
  SXPut.
-/
import Derived.Test.YtgnkmjeoaoongaaGreatDoorXd0
set_option maxRecDepth 100000
set_option maxHeartbeats 4000000
namespace Go.Proofs.YtgnkmjeoaoongaaGreatDoor
open Go.RowKit Go.Mer
theorem Qrr {l:List Qf} (hs:Li l) {v x:Qf} {k:Nat} (hx:l[k]?=some x) (hk:k<Fm l v):Om x v<0:=(A5 _ _).2 ((A8 hs hx).2 hk)
theorem Qrq {l:List Qf} (hs:Li l) {v x:Qf} (hx:l[Fm l v]?=some x) (hh:Yu l v=false):0<Om x v:=by
 have h1: ¬Om x v<0:=λh=>by
  have:=(A8 hs hx).1 ((A5 _ _).1 h);omega
 have h2:Om x v≠0:=λh=>by
  obtain ⟨e1,e2,e3⟩:=(Qc9 _ _).1 h;unfold Yu at hh;rw [hx] at hh;have h3:C5 v x=true:=by simpa using hh
  rw [Ld] at h3;omega
 omega
theorem Qdl {w wz wI:World} {cb k m:Nat} {ra a3:Option Addr} {rc c3:Nat} {R:List Qd} {x:Qf} {y:Qd} (hc:Y7 148 w ⟨cb,ra,rc,R⟩) (hk:k=Fm (R.map Qd.v) x) (hz:Kp No w wI) (hrow:Qq 44 6 Qg wz wI (.slice a3 m c3) m (R.take k++y::R.drop k)) (hzw:w.heap.size<=wz.heap.size) (hy:y.v=x) (hyo:y.ok wI)
  (hyn: ∀g,y.sl.ownBlock=some g->w.heap.size<=g):Qb8 148 ⟨cb,ra,rc,R⟩ ⟨cb,a3,c3,R.take k++y::R.drop k⟩ x w (wI.setCell ⟨cb,0,none⟩ (.slice a3 m c3)):=by
 have hcI:=hc.Q5 hz;have hs:Kp (Mer.One cb) wI (wI.setCell ⟨cb,0,none⟩ (.slice a3 m c3)):=(Kp.refl (Mer.One cb) wI).setCell (p:=⟨cb,0,none⟩) (.inl (show Mer.One cb cb from rfl)) _;obtain ⟨hm,ho,hfr,_⟩:=hrow
 have hnew: ∀g,(Value.slice a3 m c3).ownBlock=some g->g≠cb:=λg hg=>by
  obtain ⟨cur,hcur⟩:=ho.type g hg;exact Q7 hcur hcI.cell (by decide)
 refine ⟨rfl,?_,⟨?_,?_,λz hz=>?_⟩,(Kp.of_no hz).trans hs λi _ e=> .inl e, .inr ?_,λz hz=>?_⟩
 ·unfold Ja.vs Yd;simp only
  rw [<-hk,List.map_append,List.map_cons,List.map_take,List.map_drop,hy]
 ·have:=Qh hcI.cell 0 (.slice a3 m c3);unfold Ja.row;simp only
  rw [<-hm];simpa using this
 ·unfold Ja.row;simp only
  rw [<-hm];exact ho.keep hs λg hg e=>hnew g hg e
 ·have hok:z.ok wI:=by
   rcases List.mem_append.1 hz with hz|hz
   ·exact hcI.vals z (List.mem_of_mem_take hz)
   ·rcases List.mem_cons.1 hz with rfl|hz
    ·exact hyo
    ·exact hcI.vals z (List.mem_of_mem_drop hz)
  exact hok.keep hs λg hg e=>by
   obtain ⟨cur,hcur⟩:=Own.type hok g hg;exact Q7 hcur hcI.cell (by decide) e
 ·have hpos:0<m:=by rw [hm,List.length_append,List.length_cons];omega
  unfold Ja.row;simp only
  obtain ⟨_,a,cap,e,h1,h2,h3,h4⟩:=id ho;injection e with e1 _ e3;subst e1;subst e3;cases ha:a3 with
  |none=>have:=h3 ha;omega
  |some ad=>
   obtain ⟨g,off,cur,rfl,_⟩:=h4 ad ha;exact ⟨g,rfl,by have:=hfr g (by rw [ha];rfl);omega⟩
 ·rcases List.mem_append.1 hz with hz|hz
  ·exact .inl (List.mem_of_mem_take hz)
  ·rcases List.mem_cons.1 hz with rfl|hz
   ·exact .inr hyn
   ·exact .inl (List.mem_of_mem_drop hz)
theorem Q1w (w:World) (c:Ja) (x:Qd) (hc:Y7 148 w c) (hs:Li c.vs) (hx:x.rd w) (hv:Zx x.v=true) (hh:Yu c.vs x.v=false) (hn:c.R.length<=1000000):
  Calls Tryz.prog 77 #[.pointer (some ⟨c.b,0,none⟩),Y0 x] w λe w'=>e= .returned (.int .i64 0)/\ ∃c',Qb8 148 c c' x.v w w':=by
 obtain ⟨cb,ra,rc,R⟩:=c;obtain ⟨n,hnR⟩: ∃n,n=R.length:=⟨_,rfl⟩
 have hcl:n<=rc:=by
  obtain ⟨_,a,cap,e,h1,_⟩:=hc.own;unfold Ja.row at e;injection e with _ _ e3;have e3:rc=cap:=e3;rw [e3,hnR];exact h1
 have hrow:(⟨cb,ra,rc,R⟩:Ja).row= .slice ra n rc:=by unfold Ja.row;rw [hnR]
 have hR:Rd w w.heap.size ra (R.flatMap Qg):=by have:=Own.rd' (a:=ra) (cap:=rc) (m:=R.length) hc.own;exact this
 obtain ⟨w1,hw1⟩: ∃W,W=w.alloc (.cells #[.int .i64 x.v.m, .int .i64 x.v.c, .int .i64 x.v.o,x.sl, .bool x.v.gone, .int .i64 x.v.ttl] 44):=⟨_,rfl⟩;have k1:Kp No w w1:=by rw [hw1];exact zK.alloc _
 have bx:w1.heap[w.heap.size]?=some (.cells #[.int .i64 x.v.m, .int .i64 x.v.c, .int .i64 x.v.o,x.sl, .bool x.v.gone, .int .i64 x.v.ttl] 44 (0,0)):=by rw [hw1];exact heap_alloc_new w _
 obtain ⟨b,hb⟩: ∃b,b=w.heap.size:=⟨_,rfl⟩;rw [<-hb] at bx;have hcb:=Q3 hc.cell;simp only at hcb
 obtain ⟨p,hp⟩: ∃p,p=Fm (R.map Qd.v) x.v:=⟨_,rfl⟩;have hpn:p<=n:=by rw [hp,hnR];have:=Cf (R.map Qd.v) x.v;rwa [List.length_map] at this
 have RB:=zz (show ∀W,Kp No w1 W->W.rangeAt b 0 (Qg x) from λW hW=>by have:=Qb (hW.get bx λx=>x) 0 6;exact this);have HV:=zz (Ut x w1);have J44:=zz hv;have H:=zz (And.intro hc (And.intro hrow (And.intro (show Li (R.map Qd.v) from hs) (And.intro hx (And.intro (show Yu (R.map Qd.v) x.v=false from hh) (And.intro hp (And.intro hnR (And.intro hR k1))))))));have HW1:=zz hw1;have HB:=zz hb;have hnn:n<=1000000:=by simp only at hn;omega
 have Qg7:=k1.lt hcb;have hbl:=Q3 bx;simp only [Y0,Qg];clear hc hs hx hv hh hn hnR hrow hR hw1 k1 bx hb hp hcb;go_enter Tryz.func77,Tryz.ntmps77
 go_upto_region 1 with fail
 rw [<-HB.out,<-HW1.out];have J4c:=zz (RB.out w1 zK);simp only [Qg] at J4c;go_wp2_with (refine Qe rfl 44 _ rfl b 0 rfl _ _ J4c Tryz.underlying44 rfl (by kernel_rfl) ?_)
 refine HV.out.mono ?_;rintro e w2 ⟨rfl,k2⟩;rw [J44.out];have Qz:=zz k2;clear k2;go_wp2_with fail
 go_loopw [5] (λi wr=> ∃k:Nat,k<=p/\i= .int .i64 (k:Int)/\Hid (Kp No w1 wr)) (λi _=>p-(intOf i).toNat)
 case atStart=>exact ⟨0,Nat.zero_le _,rfl,Qz⟩
 case round=>
  obtain ⟨k,hk,rfl,HK⟩:=hrel;have hcr:=HK.out.lt Qg7;have hbr:=HK.out.lt hbl;rcases Nat.lt_or_ge k p with hlt|hge
  ·have hkn:k<n:=by omega
   have hkR:k<R.length:=by have:=H.out.2.2.2.2.2.2.1;omega
   obtain ⟨g,off,rfl,hgl,hgr⟩:=Yh H.out.2.2.2.2.2.2.2.1 hkR;have Qon:(R.map Qd.v)[k]?=some R[k].v:=by rw [List.getElem?_map,List.getElem?_eq_getElem hkR];rfl
   have hz0:=Qrr H.out.2.2.1 Qon (by rw [<-H.out.2.2.2.2.2.1];exact hlt);obtain ⟨z,hz⟩: ∃z,z=R[k]:=⟨_,rfl⟩;rw [<-hz] at hgr hz0;have RZ:=zz (show ∀W,Kp No wr W->W.rangeAt g (off+k*6) (Qg z) from λW hW=>hgr W ((H.out.2.2.2.2.2.2.2.2.trans_same HK.out).trans_same hW))
   have cw: ∀W,Kp No wr W->W.cell? ⟨cb,0,none⟩=some (.slice (some ⟨g,off,none⟩) n rc):=λW hW=>by
    have:=H.out.1.cells.1 W ((H.out.2.2.2.2.2.2.2.2.trans_same HK.out).trans_same hW);rw [H.out.2.1] at this;exact this
   obtain ⟨q,hq⟩: ∃q,q=Om z.v x.v:=⟨_,rfl⟩;have HO:=zz (show ∀W,Calls Tryz.prog 131 #[Y0 z,Y0 x] W λe w'=>e= .returned (.int .i64 q)/\Kp No W w' from λW=>by rw [hq];exact Q02 z x W);rw [<-hq] at hz0;have d0:decide (q<0)=true:=decide_eq_true hz0;clear hgr Qon hz hq hkR hgl hz0;go_upto_region 4 with fail
   refine zD No [0,0,0,0,0,1,0,0,0,0,0,0,0,0,0,0,2,0,0] [0,1,2,3,4,5,6,7,8,9,10,11,12,13,14,15,16,17,18] ?_;repeat (first|refine zA ?_|refine zB ?_|refine zC ?_)
   apply Q8 rfl rfl rfl
   ·intro W hW;exact Q9 44 _ rfl g (off+k*6) rfl (Qg z) _ (RZ.out W hW) Tryz.underlying44 rfl (by kernel_rfl)
   ·(focus (go_simp;rfl))
   repeat (first|refine zA ?_|refine zB ?_|refine zC ?_)
   apply Q8 rfl rfl rfl
   ·intro W hW;exact Q9 44 _ rfl b 0 rfl (Qg x) _ (RB.out W (HK.out.trans_same hW)) Tryz.underlying44 rfl (by kernel_rfl)
   ·(focus (go_simp;rfl))
   refine Q4 rfl rfl (λn1=>?_);go_wp2_with fail
   refine (HO.out _).mono ?_;rintro e wa ⟨rfl,Gl⟩;have ka:Kp No wr wa:=Gl.of_drewN;clear Gl;go_wp2_with fail
   (try refine ⟨ka,?_⟩)
   repeat (first|refine zA ?_|refine zB ?_|refine zC ?_)
   refine Q6 (λnq=>?_);have M6:=zz ((HK.out.trans_same ka).drewN nq);clear ka cw;go_wp2_with fail
   go_roundw
   case rel=>exact ⟨k+1,hlt,by go_num,M6⟩
   case measure=>simp [intOf];omega
  ·obtain rfl:k=p:=by omega
   clear hge;rcases Nat.lt_or_ge k n with hkn|hkn
   have hkR:k<R.length:=by have:=H.out.2.2.2.2.2.2.1;omega
   obtain ⟨g,off,rfl,hgl,hgr⟩:=Yh H.out.2.2.2.2.2.2.2.1 hkR;have Qon:(R.map Qd.v)[k]?=some R[k].v:=by rw [List.getElem?_map,List.getElem?_eq_getElem hkR];rfl
   have hz0:=Qrq H.out.2.2.1 (x:=R[k].v) (by rw [<-H.out.2.2.2.2.2.1];exact Qon) H.out.2.2.2.2.1;obtain ⟨z,hz⟩: ∃z,z=R[k]:=⟨_,rfl⟩;rw [<-hz] at hgr hz0;have RZ:=zz (show ∀W,Kp No wr W->W.rangeAt g (off+k*6) (Qg z) from λW hW=>hgr W ((H.out.2.2.2.2.2.2.2.2.trans_same HK.out).trans_same hW))
   have cw: ∀W,Kp No wr W->W.cell? ⟨cb,0,none⟩=some (.slice (some ⟨g,off,none⟩) n rc):=λW hW=>by
    have:=H.out.1.cells.1 W ((H.out.2.2.2.2.2.2.2.2.trans_same HK.out).trans_same hW);rw [H.out.2.1] at this;exact this
   obtain ⟨q,hq⟩: ∃q,q=Om z.v x.v:=⟨_,rfl⟩;have HO:=zz (show ∀W,Calls Tryz.prog 131 #[Y0 z,Y0 x] W λe w'=>e= .returned (.int .i64 q)/\Kp No W w' from λW=>by rw [hq];exact Q02 z x W);rw [<-hq] at hz0;have d0:decide (q<0)=false:=decide_eq_false (by omega);have d1:(q==0)=false:=by rw [beq_eq_false_iff_ne];omega
   have d2: ¬q=0:=by omega
   clear hgr Qon hz hq hkR hgl hz0;go_upto_region 4 with fail
   refine zD No [0,0,0,0,0,1,0,0,0,0,0,0,0,0,0,0,2,0,0] [0,1,2,3,4,5,6,7,8,9,10,11,12,13,14,15,16,17,18] ?_;repeat (first|refine zA ?_|refine zB ?_|refine zC ?_)
   apply Q8 rfl rfl rfl
   ·intro W hW;exact Q9 44 _ rfl g (off+k*6) rfl (Qg z) _ (RZ.out W hW) Tryz.underlying44 rfl (by kernel_rfl)
   ·(focus (go_simp;rfl))
   repeat (first|refine zA ?_|refine zB ?_|refine zC ?_)
   apply Q8 rfl rfl rfl
   ·intro W hW;exact Q9 44 _ rfl b 0 rfl (Qg x) _ (RB.out W (HK.out.trans_same hW)) Tryz.underlying44 rfl (by kernel_rfl)
   ·(focus (go_simp;rfl))
   refine Q4 rfl rfl (λn1=>?_);go_wp2_with fail
   refine (HO.out _).mono ?_;rintro e wa ⟨rfl,Gl⟩;have ka:Kp No wr wa:=Gl.of_drewN;clear Gl;go_wp2_with fail
   (try refine ⟨ka,?_⟩)
   repeat (first|refine zA ?_|refine zB ?_|refine zC ?_)
   refine Q6 (λnq=>?_);obtain ⟨wb,hwb⟩: ∃W,W=wa.drewN nq:=⟨_,rfl⟩;have kb:Kp No wr wb:=by rw [hwb];exact ka.drewN nq
   rw [<-hwb];clear hwb ka;have J01: ∀W,Kp No wb W->W.cell? ⟨cb,0,none⟩=some (.slice (some ⟨g,off,none⟩) n rc):=λW hW=>cw W (kb.trans_same hW);have hcb2:=kb.lt hcr;have Qq9:=kb.lt hbr;clear cw;go_upto_region 6 with fail
   refine zD No [0,0,0,0,0,1,0,0,0,0,0,0,0,0,0,0,2,0,0] [0,1,2,3,4,5,6,7,8,9,10,11,12,13,14,15,16,17,18] ?_;repeat (first|refine zA ?_|refine zB ?_|refine zC ?_)
   apply Q8 rfl rfl rfl
   ·intro W hW;exact Q9 44 _ rfl g (off+k*6) rfl (Qg z) _ (RZ.out W (kb.trans_same hW)) Tryz.underlying44 rfl (by kernel_rfl)
   ·(focus (go_simp;rfl))
   repeat (first|refine zA ?_|refine zB ?_|refine zC ?_)
   apply Q8 rfl rfl rfl
   ·intro W hW;exact Q9 44 _ rfl b 0 rfl (Qg x) _ (RB.out W (HK.out.trans_same (kb.trans_same hW))) Tryz.underlying44 rfl (by kernel_rfl)
   ·(focus (go_simp;rfl))
   refine Q4 rfl rfl (λn1=>?_);go_wp2_with fail
   refine (HO.out _).mono ?_;rintro e wa ⟨rfl,Gl⟩;have ka:Kp No wb wa:=Gl.of_drewN;clear Gl;go_wp2_with fail
   (try refine ⟨ka,?_⟩)
   repeat (first|refine zA ?_|refine zB ?_|refine zC ?_)
   refine Q6 (λnq=>?_);obtain ⟨wz,hwz⟩: ∃W,W=wa.drewN nq:=⟨_,rfl⟩;have KZ:=zz (show Kp No w1 wz by rw [hwz];exact ((HK.out.trans_same kb).trans_same ka).drewN nq);rw [<-hwz];clear hwz ka kb J01 hcb2 Qq9 hcr hbr d0 d1 d2;have Qdw:Rd wz wz.heap.size (some ⟨g,off,none⟩) (R.flatMap Qg):=Rd.kp H.out.2.2.2.2.2.2.2.1 (H.out.2.2.2.2.2.2.2.2.trans_same KZ.out);have Qep:=zz (show Rd wz wz.heap.size (some ⟨g,off,none⟩) ((R.take k).flatMap Qg) from by have h2:=Qdw.take (k*6);rwa [Xa Qg 6 J8] at h2)
   have HDR:=zz (show Rd wz wz.heap.size (some ⟨g,off+k*6,none⟩) ((R.drop k).flatMap Qg) from by
    have h2:=Qdw.drop (k*6);rw [Yn Qg 6 J8] at h2;simpa [Option.map,Jq] using h2)
   clear Qdw
   have Qsk: ∀W,Kp No wz W->W.cell? ⟨cb,0,none⟩=some (.slice (some ⟨g,off,none⟩) n rc):=λW hW=>by
    have:=H.out.1.cells.1 W ((H.out.2.2.2.2.2.2.2.2.trans_same KZ.out).trans_same hW);rw [H.out.2.1] at this;exact this
   have htl:(R.take k).length=k:=by have:=H.out.2.2.2.2.2.2.1;rw [List.length_take];omega
   have hdl:(R.drop k).length=(n-k):=by have:=H.out.2.2.2.2.2.2.1;rw [List.length_drop];omega
   have E4:=zz (And.intro htl hdl);have Qy1:=zz (show ∀W,Kp No wz W->W.rangeAt b 0 (Qg x) from λW hW=>RB.out W (KZ.out.trans_same hW));have Qjx:=zz (show k+1+(n-k)=n+1 from by omega);clear htl hdl;have Qr6:k<=rc:=by omega
   have hcz:=KZ.out.lt Qg7;have hbz:=KZ.out.lt hbl;rotate_left;obtain rfl:k=n:=by omega
   clear hkn;have J1s: ∀g off,ra=some (⟨g,off,none⟩:Addr)->True:=λ_ _ _=>trivial;clear J1s
   have had:ra=none\/ ∃g off,ra=some ⟨g,off,none⟩:=by
    obtain ⟨_,a,cap,e,_,_,_,h4⟩:=H.out.1.own;unfold Ja.row at e;injection e with e1;have e1:ra=a:=e1;cases ha:a with
    |none=>exact .inl (e1.trans ha)
    |some ad=>
     obtain ⟨g,off,cur,rfl,_⟩:=h4 ad ha;exact .inr ⟨g,off,e1.trans ha⟩
   have cw: ∀W,Kp No wr W->W.cell? ⟨cb,0,none⟩=some (.slice ra k rc):=λW hW=>by
    have:=H.out.1.cells.1 W ((H.out.2.2.2.2.2.2.2.2.trans_same HK.out).trans_same hW);rw [H.out.2.1] at this;exact this
   go_upto_region 4 with fail
   refine zD No [0,0,0,0,0,1,0,0,0,0,0,0,0,0,0,0,2,0,0] [0,1,2,3,4,5,6,7,8,9,10,11,12,13,14,15,16,17,18] ?_;repeat (first|refine zA ?_|refine zB ?_|refine zC ?_)
   refine Z3 rfl rfl (by rfl) rfl (λn1=>⟨(Kp.refl No wr).drewN n1,?_⟩);repeat (first|refine zA ?_|refine zB ?_|refine zC ?_)
   refine Q6 (λnq=>?_);obtain ⟨wb,hwb⟩: ∃W,W=(wr.drewN n1).drewN nq:=⟨_,rfl⟩;have kb:Kp No wr wb:=by rw [hwb];exact ((Kp.refl No wr).drewN n1).drewN nq
   rw [<-hwb];clear hwb;have J01: ∀W,Kp No wb W->W.cell? ⟨cb,0,none⟩=some (.slice ra k rc):=λW hW=>cw W (kb.trans_same hW);have hcb2:=kb.lt hcr;have Qq9:=kb.lt hbr;clear cw;go_upto_region 6 with fail
   refine zD No [0,0,0,0,0,1,0,0,0,0,0,0,0,0,0,0,2,0,0] [0,1,2,3,4,5,6,7,8,9,10,11,12,13,14,15,16,17,18] ?_;repeat (first|refine zA ?_|refine zB ?_|refine zC ?_)
   refine Z3 rfl rfl (by rfl) rfl (λn1=>⟨(Kp.refl No wb).drewN n1,?_⟩);repeat (first|refine zA ?_|refine zB ?_|refine zC ?_)
   refine Q6 (λnq=>?_);obtain ⟨wz,hwz⟩: ∃W,W=(wb.drewN n1).drewN nq:=⟨_,rfl⟩;have KZ:=zz (show Kp No w1 wz by rw [hwz];exact ((HK.out.trans_same kb).drewN n1).drewN nq);rw [<-hwz];clear hwz kb J01 hcb2 Qq9 hcr hbr;rcases had with rfl|⟨g,off,rfl⟩
   have Qdw:Rd wz wz.heap.size none (R.flatMap Qg):=Rd.kp H.out.2.2.2.2.2.2.2.1 (H.out.2.2.2.2.2.2.2.2.trans_same KZ.out);have Qep:=zz (show Rd wz wz.heap.size none ((R.take k).flatMap Qg) from by have h2:=Qdw.take (k*6);rwa [Xa Qg 6 J8] at h2)
   have HDR:=zz (show Rd wz wz.heap.size none ((R.drop k).flatMap Qg) from by
    rw [List.drop_of_length_le (by have:=H.out.2.2.2.2.2.2.1;omega)];exact Rd.nil _ _ _)
   clear Qdw
   have Qsk: ∀W,Kp No wz W->W.cell? ⟨cb,0,none⟩=some (.slice none k rc):=λW hW=>by
    have:=H.out.1.cells.1 W ((H.out.2.2.2.2.2.2.2.2.trans_same KZ.out).trans_same hW);rw [H.out.2.1] at this;exact this
   have htl:(R.take k).length=k:=by have:=H.out.2.2.2.2.2.2.1;rw [List.length_take];omega
   have hdl:(R.drop k).length=0:=by have:=H.out.2.2.2.2.2.2.1;rw [List.length_drop];omega
   have E4:=zz (And.intro htl hdl);have Qy1:=zz (show ∀W,Kp No wz W->W.rangeAt b 0 (Qg x) from λW hW=>RB.out W (KZ.out.trans_same hW));have Qjx:=zz (show k+1+0=k+1 from by omega);clear htl hdl;have Qr6:k<=rc:=by omega
   have hcz:=KZ.out.lt Qg7;have hbz:=KZ.out.lt hbl;rotate_left;by_cases hrk:rc=k
   have Qdw:Rd wz wz.heap.size (some ⟨g,off,none⟩) (R.flatMap Qg):=Rd.kp H.out.2.2.2.2.2.2.2.1 (H.out.2.2.2.2.2.2.2.2.trans_same KZ.out);have Qep:=zz (show Rd wz wz.heap.size (some ⟨g,off,none⟩) ((R.take k).flatMap Qg) from by have h2:=Qdw.take (k*6);rwa [Xa Qg 6 J8] at h2)
   have HDR:=zz (show Rd wz wz.heap.size (some ⟨g,off,none⟩) ((R.drop k).flatMap Qg) from by
    rw [List.drop_of_length_le (by have:=H.out.2.2.2.2.2.2.1;omega)];exact Rd.nil _ _ _)
   clear Qdw
   have Qsk: ∀W,Kp No wz W->W.cell? ⟨cb,0,none⟩=some (.slice (some ⟨g,off,none⟩) k rc):=λW hW=>by
    have:=H.out.1.cells.1 W ((H.out.2.2.2.2.2.2.2.2.trans_same KZ.out).trans_same hW);rw [H.out.2.1] at this;exact this
   have htl:(R.take k).length=k:=by have:=H.out.2.2.2.2.2.2.1;rw [List.length_take];omega
   have hdl:(R.drop k).length=0:=by have:=H.out.2.2.2.2.2.2.1;rw [List.length_drop];omega
   have E4:=zz (And.intro htl hdl);have Qy1:=zz (show ∀W,Kp No wz W->W.rangeAt b 0 (Qg x) from λW hW=>RB.out W (KZ.out.trans_same hW));have Qjx:=zz (show k+1+0=k+1 from by omega);clear htl hdl;have Qr6:k<=rc:=by omega
   have hcz:=KZ.out.lt Qg7;have hbz:=KZ.out.lt hbl;rotate_left;have Qdw:Rd wz wz.heap.size (some ⟨g,off,none⟩) (R.flatMap Qg):=Rd.kp H.out.2.2.2.2.2.2.2.1 (H.out.2.2.2.2.2.2.2.2.trans_same KZ.out);have Qep:=zz (show Rd wz wz.heap.size (some ⟨g,off,none⟩) ((R.take k).flatMap Qg) from by have h2:=Qdw.take (k*6);rwa [Xa Qg 6 J8] at h2)
   have HDR:=zz (show Rd wz wz.heap.size (some ⟨g,off+k*6,none⟩) ((R.drop k).flatMap Qg) from by
    rw [List.drop_of_length_le (by have:=H.out.2.2.2.2.2.2.1;omega)];exact Rd.nil _ _ _)
   clear Qdw
   have Qsk: ∀W,Kp No wz W->W.cell? ⟨cb,0,none⟩=some (.slice (some ⟨g,off,none⟩) k rc):=λW hW=>by
    have:=H.out.1.cells.1 W ((H.out.2.2.2.2.2.2.2.2.trans_same KZ.out).trans_same hW);rw [H.out.2.1] at this;exact this
   have htl:(R.take k).length=k:=by have:=H.out.2.2.2.2.2.2.1;rw [List.length_take];omega
   have hdl:(R.drop k).length=0:=by have:=H.out.2.2.2.2.2.2.1;rw [List.length_drop];omega
   have E4:=zz (And.intro htl hdl);have Qy1:=zz (show ∀W,Kp No wz W->W.rangeAt b 0 (Qg x) from λW hW=>RB.out W (KZ.out.trans_same hW));have Qjx:=zz (show k+1+0=k+1 from by omega);clear htl hdl;have Qr6:k<=rc:=by omega
   have hcz:=KZ.out.lt Qg7;have hbz:=KZ.out.lt hbl
   all_goals
    go_upto_region 8 with fail
    refine zD No [2,0,0,0,0,0,0,2,0,2,2,2,0] [1,2,3,4,5,6,8,0,7,9,10,11,12] ?_;repeat (first|refine zA ?_|refine zB ?_|refine zC ?_)
    apply Q8 rfl rfl rfl
    ·intro W hW;exact Q9 44 _ rfl b 0 rfl (Qg x) _ (Qy1.out W hW) Tryz.underlying44 rfl (by kernel_rfl)
    ·(focus (go_simp;rfl))
    refine Q4 rfl rfl (λn1=>?_);go_wp2_with fail
    obtain ⟨eb,heb⟩: ∃e,e=wz.heap.size:=⟨_,rfl⟩;have hm0:=Qq.made (E:=44) (sz:=6) (f:=Qg) ((Kp.refl No wz).drewN n1);obtain ⟨wA,hwA⟩: ∃W,W=(wz.drewN n1).alloc (.cells #[] 44):=⟨_,rfl⟩;rw [<-hwA] at hm0⊢;have hm0:Qq 44 6 Qg wz wA (.slice (some ⟨eb,0,none⟩) 0 0) 0 []:=by rw [heb];exact hm0
    rw [<-heb];have Qjw:=zz hm0;have Ja1:=zz heb;clear hm0 hwA heb;refine ⟨Qjw.out.2.2.2,?_⟩;repeat (first|refine zA ?_|refine zB ?_|refine zC ?_)
    refine Q4 rfl rfl (λn2=>?_);obtain ⟨wB,hwB⟩: ∃W,W=wA.drewN n2:=⟨_,rfl⟩;have I7:Kp No wA wB:=by rw [hwB];exact (Kp.refl No wA).drewN n2
    obtain ⟨a1,c1,wC,hrun1,Qgw,_⟩:=Qq.app (P:=Tryz.prog) (T:=68) Tryz.underlying68 Vo Yg (Qjw.out.keep I7) (R.take k) (Yf (f:=Qg) (c:=rc) J8 (Rd.kp Qep.out (Qjw.out.2.2.2.trans_same I7))) rfl (by have:=E4.out.1;unfold maxLen;omega) (by have:=E4.out.1;omega);rw [Nat.zero_add,List.nil_append,E4.out.1] at Qgw;rw [Nat.zero_add,E4.out.1] at hrun1;have Ky:=zz hrun1;have HR1:=zz Qgw;rw [<-hwB];clear hwB I7 hrun1 Qgw;refine wpList_append_run rfl rfl rfl rfl Ky.out ?_;refine wpList_nil ?_;refine ⟨rfl,HR1.out.2.2.2,?_⟩;repeat (first|refine zA ?_|refine zB ?_|refine zC ?_)
    refine Q4 rfl rfl (λn3=>?_);go_wp2_with fail
    have hxr:x.rd (wC.drewN n3):=Qd.Fg H.out.2.2.2.1 ((H.out.2.2.2.2.2.2.2.2.trans_same KZ.out).trans_same (HR1.out.2.2.2.drewN n3));refine (Qiw x _ hxr (by have:=(Zo.1 J44.out).2.2.2.1;omega)).mono ?_;rintro e wD ⟨⟨yv,ya,yc⟩,hyv,rfl,hyo,hyn,J5x⟩;have hyv:yv=x.v:=hyv;subst hyv;have kD:Kp No wC wD:=J5x.of_drewN;have Qzq:=zz (And.intro hyo (And.intro (show ∀g,(Qd.sl ⟨x.v,ya,yc⟩).ownBlock=some g->wC.heap.size<=g from hyn) kD));have Qys:=zz (H.out.2.2.2.2.2.2.2.2.trans_same KZ.out);clear hxr hyo hyn J5x;simp only [Y0,Qg,Qd.sl];go_wp2_with fail
    (try refine ⟨HR1.out.2.2.2.trans_same kD,?_⟩)
    clear kD;repeat (first|refine zA ?_|refine zB ?_|refine zC ?_)
    refine Q4 rfl rfl (λn4=>?_);go_wp2_with fail
    obtain ⟨vb,hvb⟩: ∃v,v=wD.heap.size:=⟨_,rfl⟩;obtain ⟨wE,hwE⟩: ∃W,W=(wD.drewN n4).alloc (.cells #[.int .i64 x.v.m, .int .i64 x.v.c, .int .i64 x.v.o, .slice ya x.v.val.length yc, .bool x.v.gone, .int .i64 x.v.ttl] 44):=⟨_,rfl⟩;have kE:Kp No wD wE:=by rw [hwE];exact ((Kp.refl No wD).drewN n4).alloc _
    have bE:wE.heap[vb]?=some (.cells #[.int .i64 x.v.m, .int .i64 x.v.c, .int .i64 x.v.o, .slice ya x.v.val.length yc, .bool x.v.gone, .int .i64 x.v.ttl] 44 (0,0)):=by rw [hwE,hvb];exact heap_alloc_new (wD.drewN n4) _
    have HE:=zz (And.intro (Qzq.out.2.2.trans_same kE) (And.intro kE bE));rw [<-hwE,<-hvb];clear hwE hvb kE bE;refine ⟨HR1.out.2.2.2.trans_same HE.out.1,?_⟩;repeat (first|refine zA ?_|refine zB ?_|refine zC ?_)
    refine Q4 rfl rfl (λn5=>?_);obtain ⟨wF,hwF⟩: ∃W,W=wE.drewN n5:=⟨_,rfl⟩;have kF:Kp No wE wF:=by rw [hwF];exact (Kp.refl No wE).drewN n5
    obtain ⟨a2,c2,wG,hrun2,Qof,hk2⟩:=Qq.app (P:=Tryz.prog) (T:=68) Tryz.underlying68 Vo Yg (HR1.out.keep (HE.out.1.trans_same kF)) [(⟨x.v,ya,yc⟩:Qd)] (Ew (f:=Qg) J8 (x:=(⟨x.v,ya,yc⟩:Qd)) (kF.get HE.out.2.2 λx=>x) rfl) rfl (by unfold maxLen;omega) (by omega);have Q3l:=zz hrun2;have HR2:=zz Qof;have J5o:Qd.ok ⟨x.v,ya,yc⟩ wF:=Qd.ok.keep Qzq.out.1 (HE.out.2.1.trans_same kF) λ_ _ x=>x
    have Qzp:=zz (show Qd.ok ⟨x.v,ya,yc⟩ wG from Qd.ok.apart J5o hk2 λg hg cur hcur=>by
     obtain ⟨cu,Uu⟩:=(HR1.out.keep (HE.out.1.trans_same kF)).2.1.type g hg;exact Q7 hcur Uu (by decide) rfl)
    rw [<-hwF];clear hwF kF hrun2 Qof hk2 J5o;refine wpList_append_run rfl rfl rfl rfl Q3l.out ?_;refine wpList_nil ?_;refine ⟨rfl,HR2.out.2.2.2,?_⟩;clear Q3l;repeat (first|refine zA ?_|refine zB ?_|refine zC ?_)
    refine Q6 (λnq=>?_);obtain ⟨wH,J23⟩: ∃W,W=wG.drewN nq:=⟨_,rfl⟩;have kH:Kp No wG wH:=by rw [J23];exact (Kp.refl No wG).drewN nq
    have Qyk:=HR2.out.2.2.2.trans_same kH;obtain ⟨a3,c3,wI,hrun3,Bl,hk3⟩:=Qq.app (P:=Tryz.prog) (T:=68) Tryz.underlying68 Vo Yg (HR2.out.keep kH) (R.drop k) (Yf (f:=Qg) (c:=(rc-k)) J8 (Rd.kp HDR.out Qyk)) rfl (by have:=E4.out.2;unfold maxLen;omega) (by have:=E4.out.2;omega);first|rw [E4.out.2,Qjx.out] at Bl hrun3|rw [E4.out.2,Nat.add_zero] at Bl hrun3
    rw [List.append_assoc] at Bl;have J5p:Qd.ok ⟨x.v,ya,yc⟩ wH:=Qd.ok.keep Qzp.out kH λ_ _ x=>x
    have J5q:Qd.ok ⟨x.v,ya,yc⟩ wI:=Qd.ok.apart J5p hk3 λg hg cur hcur=>by
     obtain ⟨cu,Uu⟩:=(HR2.out.keep kH).2.1.type g hg;exact Q7 hcur Uu (by decide) rfl
    have J1a:Kp No w wI:=Qys.out.trans_same Bl.2.2.2
    have Qng:=zz (Qdl H.out.1 H.out.2.2.2.2.2.1 J1a Bl Qys.out.size rfl J5q λg hg=>by
     have h1:=Qzq.out.2.1 g hg;have h2:=HR1.out.2.2.2.size;have h3:=Qys.out.size;omega)
    have bI:=H.out.1.Q5 J1a;have cI:=Qsk wI Bl.2.2.2;have fI:=bI.cells.2 wI zK;have lI:=Q3 bI.cell;simp only at lI
    have cH:=Qsk wH Qyk;have lH:=Qyk.lt hcz;have Qsg:=zz hrun3;rw [<-J23];clear J23 kH Qyk hrun3 Bl hk3 J5p J5q J1a bI Qsk;go_wp2_with (at_builtin;refine wpList_append_run rfl rfl rfl rfl Qsg.out ?_;clear Qsg)
    go_ret
    first
     |exact ⟨rfl,_,Qng.out⟩
     |(have hdd:=Qng.out;rw [hrk] at hdd;exact ⟨rfl,_,hdd⟩)
end Go.Proofs.YtgnkmjeoaoongaaGreatDoor
