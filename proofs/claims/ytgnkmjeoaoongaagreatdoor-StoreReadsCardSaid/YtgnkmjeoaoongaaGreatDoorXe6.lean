/-
  SLens, SXApp, SGot, WLaid.
-/
import Derived.Test.YtgnkmjeoaoongaaGreatDoorXe5
import Derived.Test.YtgnkmjeoaoongaaGreatDoorXe0
import Derived.Test.YtgnkmjeoaoongaaGreatDoorRows
import Derived.Test.YtgnkmjeoaoongaaGreatDoorXe1
import Derived.Lib.SmallJoins
import Derived.Stop.LaidErr
import Derived.LaidMore
import Derived.Stop.Joined
import Derived.Lay
set_option maxRecDepth 100000
set_option maxHeartbeats 2000000
namespace Go.Proofs.YtgnkmjeoaoongaaGreatDoor
open Go.RowKit Go.Mer
def Q5g (l:List (ByteArray×List Qf)):Nat:=(l.map λp=>p.2.length).sum
theorem Qlv (st:J7):Zy st=Q5g st.keys:=rfl
theorem Qi9 (l:List (ByteArray×List Qf)) (k:ByteArray) (c:List Qf):(Jn l k c).length<=l.length+1:=by
 induction l with
 |nil=>exact Nat.le_refl _
 |cons x l ih=>
  rw [Jn];split
  ·rw [List.length_cons,List.length_cons];omega
  ·split
   ·rw [List.length_cons,List.length_cons];omega
   ·rw [List.length_cons,List.length_cons];omega
theorem Qcq {l:List (ByteArray×List Qf)} (hs:Je l) (k:ByteArray) (c:List Qf):Q5g (Jn l k c)+(Qi l k).length=Q5g l+c.length:=by
 induction l with
 |nil=>
  show c.length+0+(Qi [] k).length=0+c.length
  rw [show Qi [] k=[] from rfl];simp
 |cons x l ih=>
  obtain ⟨h1,h2⟩:=List.pairwise_cons.1 hs;have ih:=ih h2;rw [Jn]
  have hc:Qi (x::l) k=if x.1=k then x.2 else Qi l k:=by
   unfold Qi;rw [Jz];split<;>rfl
  unfold Q5g at ih⊢;split
  ·next hx=>
   rw [hc,if_neg (λe=>by rw [e] at hx;exact J5 _ hx)];simp only [List.map_cons,List.sum_cons];omega
  ·next hx=>
   split
   ·next he=>
    rw [hc,if_pos he];simp only [List.map_cons,List.sum_cons];omega
   ·next he=>
    have hk:Ug k x.1:=by
     rcases Cd x.1 k with h|h|h
     ·exact absurd h hx
     ·exact absurd h he
     ·exact h
    have hn:Qi l k=[]:=by
     have:=Je.gone hs (.inl hk);have h3:Qo l k=none:=this;unfold Qi;rw [h3];rfl
    rw [hc,if_neg he,hn];simp only [List.map_cons,List.sum_cons,List.length_nil];omega
theorem Q5a {o:Nat}: ∀(l:List Qx) {st:J7},Je st.keys->(Jf o st l).keys.length<=st.keys.length+l.length/\Zy (Jf o st l)<=Zy st+l.length/\Je (Jf o st l).keys
 |[],_,hs=>⟨Nat.le_refl _,Nat.le_refl _,hs⟩
 |r::l,st,hs=>by
  obtain ⟨h1,h2,h3⟩:=Q5a l (st:=Gq o st r) (Q69 hs r);have h4:=Qi9 st.keys r.key (Yd (Qi st.keys r.key) r.v);have h5:=Qcq hs r.key (Yd (Qi st.keys r.key) r.v);rw [Va] at h5;have e1:(Gq o st r).keys=Jn st.keys r.key (Yd (Qi st.keys r.key) r.v):=rfl;have e2:Zy (Gq o st r)=Q5g (Jn st.keys r.key (Yd (Qi st.keys r.key) r.v)):=rfl;have e3:=Qlv st;rw [e1] at h1;rw [e2] at h2;rw [List.length_cons];refine ⟨?_,?_,h3⟩
  ·show (Jf o (Gq o st r) l).keys.length<=_
   omega
  ·show Zy (Jf o (Gq o st r) l)<=_
   omega
theorem Qm4 {P:ByteArray} {o:Nat} {s:Qu} {st:J7} {lg:J2} (hs:Je st.keys) (l:List Qx):(Jd P o s st lg l).2.2.1.keys.length<=st.keys.length+l.length/\Zy (Jd P o s st lg l).2.2.1<=Zy st+l.length:=by
 have h:=Q5a (o:=o) l hs;unfold Jd;split
 ·exact ⟨Nat.le_add_right _ _,Nat.le_add_right _ _⟩
 ·split
  ·exact ⟨Nat.le_add_right _ _,Nat.le_add_right _ _⟩
  ·split
   ·simp only
    split
    ·exact ⟨h.1,h.2.1⟩
    ·exact ⟨Nat.le_add_right _ _,Nat.le_add_right _ _⟩
   ·exact ⟨Nat.le_add_right _ _,Nat.le_add_right _ _⟩
theorem Bi (P:ByteArray) (room:Nat) (h:room<=1048576):Mb 0 P ⟨room,none,[]⟩ X0 st0:=
 ⟨⟨h,λp hp=>absurd hp List.not_mem_nil,λ_=>Nat.zero_le _,Nat.zero_le _,λz hz=>absurd hz List.not_mem_nil,Nat.zero_le _,Nat.zero_le _,λz hz=>absurd hz List.not_mem_nil⟩,
  λ_=>⟨rfl,λS1 z e=>(by
   have:([]:List (Nat×Nat))=S1++[z]:=e;simp at this),λp hp=>absurd hp List.not_mem_nil,List.Pairwise.nil,λz hz=>absurd hz List.not_mem_nil⟩,Nat.zero_le _⟩
theorem Qi2 {P:ByteArray} {o:Nat} {s:Qu} {lg:J2} {l:List Qx} (h: ¬((Qp (Jd P o s X0 lg l).2.2.1.of 0).seq=0/\(Jd P o s X0 lg l).2.2.1.keys.length=0)):
  Fk X0 l=0/\(Jd P o s X0 lg l).2.2.1.keys=(Jf o X0 l).keys:=by
 revert h
 unfold Jd;split
 ·intro h;exact absurd ⟨rfl,rfl⟩ h
 ·split
  ·intro h;exact absurd ⟨rfl,rfl⟩ h
  ·split
   ·next hm=>
    simp only
    split
    ·intro _;exact ⟨hm,rfl⟩
    ·intro h;exact absurd ⟨rfl,rfl⟩ h
   ·intro h;exact absurd ⟨rfl,rfl⟩ h
theorem Qbj (l:List Qx) (o:Nat) (k:ByteArray):Qi (Jf o X0 l).keys k=((l.filter λr=>decide (r.key=k)).map (·.v)).foldl Yd []:=Q7p l List.Pairwise.nil k
theorem Qhx {l:List Qx} (hm:Fk X0 l=0) {o:Nat} (ho:o<5) (k:ByteArray):Uw [] ((l.filter λr=>decide (r.key=k)).map (·.v)):=by
 obtain ⟨_,h2,h3⟩:=Qai hm;exact Qm5 l (Da ho) h2 h3 k
theorem Q3d {w:World} {s r y o:Nat} {P:ByteArray} {st:J7} {la ka:Option Addr} {lc kc:Nat} {cs:Z7} {K:List Qa} (h:Xx w s r y P o st la lc cs ka kc K) (i:Nat) (hi:i<5):
  Calls Tryz.prog 22 #[.pointer (some ⟨s,0,none⟩), .int .i64 (i:Int)] w λe w'=>e= .returned (.tuple #[.int .i64 (Qp st.of i).seq, .agg #[.int .i64 (Qp st.of i).m, .int .i64 (Qp st.of i).c]])/\Kp No w w':=by
 have d0:decide ((i:Int)<0)=false:=decide_eq_false (by omega);have d1:decide ((5:Int)<=(i:Int))=false:=decide_eq_false (by omega);have d2:decide (5<=i)=false:=decide_eq_false (by omega);obtain ⟨w1,hw1⟩: ∃W,W=w.alloc (.cells #[.int .i64 0, .int .i64 0] 25):=⟨_,rfl⟩;obtain ⟨b,hb⟩: ∃b,b=w.heap.size:=⟨_,rfl⟩;have k1:Kp No w w1:=by rw [hw1];exact zK.alloc _
 have b1:w1.heap[b]?=some (.cells #[.int .i64 0, .int .i64 0] 25 (0,0)):=by rw [hw1,hb];exact heap_alloc_new w _
 have h1:=h.Q5 k1;obtain ⟨sq,Qjn⟩: ∃z,z=(Qp st.of i).seq:=⟨_,rfl⟩;obtain ⟨m0,hm0⟩: ∃z,z=(Qp st.of i).m:=⟨_,rfl⟩;obtain ⟨c0,hc0⟩: ∃z,z=(Qp st.of i).c:=⟨_,rfl⟩;have hg:=Uc st.of hi;rw [<-Qjn,<-hm0,<-hc0] at hg⊢
 have hR: ∀W,Kp No w1 W->W.rangeAt s 8 (Nn st.of):=λW hW=>by
  have:=Qb (h1.Q5 hW).cell 8 15;rwa [Qiy] at this
 have g0: ∀W,Kp No w1 W->W.cell? ⟨s,8+i*3,none⟩=some (.int .i64 sq):=λW hW=>hR W hW _ _ hg.1
 have RS:=zz (show ∀W,Kp No w1 W->W.rangeAt s (8+i*3+1) [.int .i64 m0, .int .i64 c0] from λW hW=>by
  intro j u hu;match j,hu with
  |0,hu=>injection hu with hu;subst hu;exact hR W hW _ _ hg.2.1
  |1,hu=>injection hu with hu;subst hu;exact hR W hW _ _ hg.2.2)
 have sl:=Q3 h1.cell;have HB:=zz b1;have HW:=zz (And.intro hw1 hb);have HK:=zz k1;clear h h1 hg hR Qjn hm0 hc0 hw1 hb b1 k1;go_enter Tryz.func22,Tryz.ntmps22
 go_upto_region 3 with fail
 rw [<-HW.out.1,<-HW.out.2];refine J4 (Kp No w1) [0,0,0,0,0,0,0,0,0,0,0,0,0,0,0,2] [0,1,2,3,4,5,6,7,8,9,10,11,12,13,14] 15 (by kernel_rfl) (by kernel_rfl) (λ_ n h=>h.drewN n) zK ?_;repeat (first|refine zA ?_|refine zB ?_|refine zC ?_)
 (try (apply Q8 rfl rfl rfl;(focus (intro _ _;go_simp;rw [if_pos (show ((i:Nat):Int)<5 from Int.ofNat_lt.2 hi)]));(focus (go_simp;rfl))))
 repeat (first|refine zA ?_|refine zB ?_|refine zC ?_)
 (try (apply Q8 rfl rfl rfl;(focus (intro _ _;go_simp;rw [if_pos (show ((i:Nat):Int)<5 from Int.ofNat_lt.2 hi)]));(focus (go_simp;rfl))))
 repeat (first|refine zA ?_|refine zB ?_|refine zC ?_)
 (try (apply Q8 rfl rfl rfl;(focus (intro W hW;exact Q9 25 _ rfl s (8+i*3+1) rfl [.int .i64 m0, .int .i64 c0] _ (RS.out W hW) Tryz.underlying25 rfl (by kernel_rfl)));(focus (go_simp;rfl))))
 repeat (first|refine zA ?_|refine zB ?_|refine zC ?_)
 refine Yc (λn1=>?_);refine Q4 rfl rfl (λn2=>?_);obtain ⟨we,hwe⟩: ∃W,W=World.drewN (World.drewN w1 n1) n2:=⟨_,rfl⟩;have ke:Kp No w1 we:=by rw [hwe];exact ⟨rfl,rfl,rfl,Nat.le_refl _,λ_ _ _=>rfl⟩
 have be:=ke.get HB.out λx=>x;have z0:we.cell? ⟨b,0,none⟩=some (.int .i64 0):=Q0 be 0;have z1:we.cell? ⟨b,1,none⟩=some (.int .i64 0):=Q0 be 1;have f0:=Qc be 0;have f1:=Qc be 1;have lb:=Q3 be;have Qyq:=zz be;have Q3k:=zz (HK.out.trans_same ke);rw [<-hwe];clear hwe ke be;go_wp2_with fail
 intro nr;obtain ⟨wz,hwz⟩: ∃W,W=((we.setCell ⟨b,0,none⟩ (.int .i64 m0)).setCell ⟨b,1,none⟩ (.int .i64 c0)).drewN nr:=⟨_,rfl⟩
 have bz:wz.heap[b]?=some (.cells #[.int .i64 m0, .int .i64 c0] 25 (0,0)):=by
  rw [hwz];show ((we.setCell ⟨b,0,none⟩ (.int .i64 m0)).setCell ⟨b,1,none⟩ (.int .i64 c0)).heap[b]?=_
  rw [Qh (Qh Qyq.out 0 _) 1 _];rfl
 have y0:wz.cell? ⟨b,0,none⟩=some (.int .i64 m0):=Q0 bz 0;have y1:wz.cell? ⟨b,1,none⟩=some (.int .i64 c0):=Q0 bz 1;have yl:=Q3 bz
 have Qjt:=zz (show Kp No w wz by
  have hbw:=HW.out.2;rw [hwz];exact ((Q3k.out.setCell (p:=⟨b,0,none⟩) (.inr (by show w.heap.size<=b;omega)) _).setCell (p:=⟨b,1,none⟩) (.inr (by show w.heap.size<=b;omega)) _).drewN nr)
 rw [<-hwz];clear hwz bz z0 z1 f0 f1 lb;go_wp2_with fail
 exact bodyPost_ret (v:= .tuple #[.int .i64 sq, .agg #[.int .i64 m0, .int .i64 c0]]) (by simp [results,Tryz.results22,go_sem,y0,y1]) rfl ⟨rfl,Qjt.out⟩
structure Qy0 (w:World) (R:List Qd) (j:Nat) (c:Ja) (wr:World):Prop where
 ok:Y7 148 wr c
 vs:c.vs=((R.take j).map Qd.v).foldl Yd []
 new: ∀k,Qdo c k->w.heap.size<=k
 kp:Kp No w wr
theorem Qiv (w:World) (a:Option Addr) (cap:Nat) (R:List Qd) (hR:Rd w w.heap.size a (R.flatMap Qg)) (hv: ∀x∈R,x.rd w) (hp:Uw [] (R.map Qd.v)) (hn:R.length<=1000):
  Calls Tryz.prog 25 #[.slice a R.length cap] w λe w'=> ∃c:Ja,e= .returned (.tuple #[.pointer (some ⟨c.b,0,none⟩), .int .i64 0])/\Qy0 w R R.length c w':=by
 obtain ⟨n,hnR⟩: ∃n,n=R.length:=⟨_,rfl⟩;obtain ⟨w1,hw1⟩: ∃W,W=w.alloc (.cells #[.slice none 0 0] 148):=⟨_,rfl⟩;obtain ⟨b,hb⟩: ∃b,b=w.heap.size:=⟨_,rfl⟩;have k1:Kp No w w1:=by rw [hw1];exact zK.alloc _
 have b1:w1.heap[b]?=some (.cells #[.slice none 0 0] 148 (0,0)):=by rw [hw1,hb];exact heap_alloc_new w _
 have Qjr:=zz (show Qy0 w R 0 ⟨b,none,0,[]⟩ w1 from ⟨⟨b1,Own.nil _ _ _,λx hx=>absurd hx List.not_mem_nil⟩,rfl,λk hk=>by
  rcases hk with hk|hk|⟨y,hy,_⟩
  ·have hk:k=b:=hk;omega
  ·simp [Ja.row,Value.ownBlock] at hk
  ·exact absurd hy List.not_mem_nil,k1⟩)
 have HR:=zz (And.intro hR (And.intro hv hp));have HN:=zz hnR;have HW:=zz (And.intro hw1 hb);have hnn:n<=1000:=by omega
 rw [<-hnR];clear hR hv hp hnR hw1 hb k1 b1 hn;go_enter Tryz.func25,Tryz.ntmps25
 go_upto_region 2 with fail
 rw [<-HW.out.1,<-HW.out.2];go_wp2_with fail
 go_loopw [5] (λi wr=> ∃(j:Nat) (c:Ja),j<=n/\c.b=b/\i= .int .i64 (j:Int)/\Hid (Qy0 w R j c wr)) (λi _=>n-(intOf i).toNat)
 case atStart=>exact ⟨0,⟨b,none,0,[]⟩,Nat.zero_le _,rfl,rfl,Qjr⟩
 case round=>
  clear Qjr;obtain ⟨j,c,hj,hcb,rfl,HJ⟩:=hrel;rcases Nat.lt_or_ge j n with hlt|hge
  ·have Qo5:j<R.length:=by have:=HN.out;omega
   have hk:=HJ.out.kp;obtain ⟨g,off,rfl,hgl,hgr⟩:=Yh HR.out.1 Qo5;have hxr:=HR.out.2.1 R[j] (List.getElem_mem Qo5);have hpa:=Uw.at_ (i:=j) HR.out.2.2 (by rw [List.length_map];exact Qo5);rw [List.getElem_map,<-List.map_take] at hpa;have hst:R.take (j+1)=R.take j++[R[j]]:=List.take_succ_eq_append_getElem Qo5;obtain ⟨x,hx⟩: ∃x,x=R[j]:=⟨_,rfl⟩;rw [<-hx] at hgr hxr hpa hst;have R1:=zz (hgr wr hk);have hg3:=hk.lt hgl
   have hs:Li c.vs:=by
    rw [HJ.out.vs]
    have key: ∀(l c0:List Qf),Li c0->Uw c0 l-> ∀i,Li ((l.take i).foldl Yd c0):=by
     intro l;induction l with
     |nil=>intro c0 h0 _ i;rw [List.take_nil];exact h0
     |cons v l ih=>
      intro c0 h0 hp i;cases i with
      |zero=>exact h0
      |succ i=>exact ih (Yd c0 v) (On h0 hp.2.1) hp.2.2 i
    have:=key (R.map Qd.v) [] List.Pairwise.nil HR.out.2.2 j;rwa [<-List.map_take] at this
   have hcl:c.R.length<=1000:=by
    have h1:=congrArg List.length HJ.out.vs;rw [Oo] at h1;unfold Ja.vs at h1;rw [List.length_map,List.length_map,List.length_take,List.length_nil] at h1;omega
   have hput:=Q1w wr c x HJ.out.ok hs (Qd.Fg hxr hk) hpa.1 (by rw [HJ.out.vs];exact hpa.2) (by omega);rw [hcb] at hput;have Qel:=zz hput;have HST:=zz hst;have Vj:=zz hcb;clear hgr hxr hpa hst hx hs hcl hput hgl Qo5 hk hcb;go_wp2_with (refine Qe rfl 44 _ rfl g (off+j*6) rfl _ _ R1 Tryz.underlying44 rfl (by kernel_rfl) ?_)
   refine Qel.out.mono ?_;rintro e w2 ⟨rfl,c',hP⟩
   have Qnj:=zz (show c'.b=b/\Qy0 w R (j+1) c' w2 from ⟨hP.b.trans Vj.out,hP.ok,by rw [hP.vs,HJ.out.vs,HST.out,List.map_append,List.foldl_append];rfl,λk hk=>by
    rcases Q9p hP hk with h1|h1
    ·exact HJ.out.new k h1
    ·have:=HJ.out.kp.size;omega,HJ.out.kp.trans hP.kp λi hi hS=>by
    have:Qdo c i:=hS.imp id λe=> .inl e;have:=HJ.out.new i this;omega⟩)
   clear hP Qel;go_wp2_with fail
   go_roundw
   case rel=>exact ⟨j+1,c',hlt,Qnj.out.1,by go_num,zz Qnj.out.2⟩
   case measure=>simp [intOf];omega
  ·obtain rfl:n=j:=by omega
   have HE:=zz (And.intro hcb HJ.out);clear hge hcb;go_wp2_with fail
   go_ret2
   exact ⟨c,by rw [HE.out.1];rfl,HE.out.2⟩
def Qe5 (l:List Qf) (st:J7) (t1 t2:Int) (w:World) (v:Value) (b:Bool) (er:Int):Prop:=
 (Z6 t1 t2 st.mm st.mc=true/\b=false/\er=19)\/(Z6 t1 t2 st.mm st.mc=false/\er=0/\((U1 l t1 t2=none/\v= .slice none 0 0/\b=false)\/ ∃u a cap,U1 l t1 t2=some u/\v= .slice a u.length cap/\b=true/\Rd w w.heap.size a (u8s u)))
theorem Qe5.keep {l:List Qf} {st:J7} {t1 t2:Int} {w w':World} {v:Value} {b:Bool} {er:Int} (h:Qe5 l st t1 t2 w v b er) (hk:Kp No w w'):Qe5 l st t1 t2 w' v b er:=by
 rcases h with h|⟨h1,h2,h3|⟨u,a,cap,h3,h4,h5,h6⟩⟩
 ·exact .inl h
 ·exact .inr ⟨h1,h2, .inl h3⟩
 ·exact .inr ⟨h1,h2, .inr ⟨u,a,cap,h3,h4,h5,Rd.kp h6 hk⟩⟩
theorem Qpw {W w':World} {k:ByteArray} {t1 t2:Int} {st:J7} {l:List Qf} {e:Ending} (h:Q9e W (Ha st k t1 t2) e w') (hg:Z6 t1 t2 st.mm st.mc=false->U1 (Qi st.keys k) t1 t2=U1 l t1 t2):
  ∃v b er,e= .returned (.tuple #[v, .bool b, .int .i64 er])/\Kp No W w'/\Qe5 l st t1 t2 w' v b er:=by
 cases hs:Z6 t1 t2 st.mm st.mc with
 |true=>
  rw [Qa1 hs] at h;exact ⟨_,_,_,h.1,h.2, .inl ⟨hs,rfl,rfl⟩⟩
 |false=>
  rw [Qa0 (by rw [hs];decide),hg hs] at h;cases hc:U1 l t1 t2 with
  |none=>
   rw [hc] at h;exact ⟨_,_,_,h.1,h.2, .inr ⟨hs,rfl, .inl ⟨hc,rfl,rfl⟩⟩⟩
  |some u=>
   rw [hc] at h;obtain ⟨a,cap,h1,h2,h3,h4⟩:=h;exact ⟨_,_,_,h1,h4, .inr ⟨hs,rfl, .inr ⟨u,a,cap,hc,rfl,rfl,h2.rd'⟩⟩⟩
theorem Qlm {l:List Qf} {t1 t2:Int} {u:List UInt8} (hv: ∀v∈l,Zx v=true) (h:U1 l t1 t2=some u):u.length<=1000000:=by
 rw [Mj] at h;cases ho:Lw l t1 t2 with
 |none=>rw [ho] at h;cases h
 |some v=>
  rw [ho] at h;obtain ⟨i,_,hu⟩:=Gd ho;have h1:=(Zo.1 (hv v (List.mem_of_getElem? hu)));unfold Q90 at h;simp only at h
  split at h
  ·injection h with h;have h2:=h1.2.2.2.1;rw [<-h];omega
  ·cases h
theorem Qdi (w:World) (c:Ja) (t1 t2:Int) (ht:t1<=9223372036854775807) (hc:Y7 148 w c) (hs:Li c.vs) (hn:c.R.length<=1000000) (hv: ∀v∈c.vs,Zx v=true):
  Calls Tryz.prog 28 #[.pointer (some ⟨c.b,0,none⟩),Xo t1 t2] w (Qt0 w c.R (U1 c.vs t1 t2)):=by
 cases h:Lw c.vs t1 t2 with
 |none=>
  have h0:=Gc.1 h;have hg:U1 c.vs t1 t2=none:=by rw [Mj,h];rfl
  rw [hg];refine (Q6n w [] (some ⟨c.b,0,none⟩) t1 t2 none ht (λW hW=>?_) (λv hv=>by cases hv)).mono ?_
  ·refine Qiq W _ t1 t2 λW' hW'=>?_;have:=Nx W' c t1 t2 (hc.Q5 (hW.trans_same hW')) hs hn;rw [h0] at this;exact this
  ·intro e w' hq;exact hq
 |some v=>
  have hg:U1 c.vs t1 t2=Q90 (some v) t1 t2:=by rw [Mj,h]
  rw [hg];refine Q6n w c.R (some ⟨c.b,0,none⟩) t1 t2 (some v) ht (λW hW=>?_) (λv' hv'=>?_)
  ·exact Qir W c t1 t2 (hc.Q5 hW) hs hn v h
  ·injection hv' with hv';subst hv';unfold Lw at h;split at h
   ·cases h
   ·exact hv _ (List.mem_of_getElem? h)
open Go.ChangeShapes Go.WideShapes Go.ChangeAt
theorem Tryz.own:ownKnob Tryz.prog.godebug=none:=by kernel_rfl
theorem Tryz.laidOut:laidOutB Tryz.prog=true:=by kernel_rfl
section
variable {H:Type} {enc:TypeId×Value->H} {W:World} {ts:List TypeId} {ds:List (DataW H)}
end
end Go.Proofs.YtgnkmjeoaoongaaGreatDoor
