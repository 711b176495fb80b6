/-
  SOf, SEncR, SList, SMay.
-/
import Derived.Test.YtgnkmjeoaoongaaGreatDoorXc7
set_option maxRecDepth 100000
set_option maxHeartbeats 4000000
namespace Go.Proofs.YtgnkmjeoaoongaaGreatDoor
open Go.RowKit Go.Mer
def Nn (of:List Jt):List Value:=
 [.int .i64 (Qp of 0).seq, .int .i64 (Qp of 0).m, .int .i64 (Qp of 0).c, .int .i64 (Qp of 1).seq, .int .i64 (Qp of 1).m, .int .i64 (Qp of 1).c,
  .int .i64 (Qp of 2).seq, .int .i64 (Qp of 2).m, .int .i64 (Qp of 2).c, .int .i64 (Qp of 3).seq, .int .i64 (Qp of 3).m, .int .i64 (Qp of 3).c,
  .int .i64 (Qp of 4).seq, .int .i64 (Qp of 4).m, .int .i64 (Qp of 4).c]
theorem K8 {i:Nat} (h:i<5):i=0\/i=1\/i=2\/i=3\/i=4:=by omega
theorem Uc (of:List Jt) {i:Nat} (h:i<5):(Nn of)[i*3]?=some (.int .i64 (Qp of i).seq)/\(Nn of)[i*3+1]?=some (.int .i64 (Qp of i).m)/\(Nn of)[i*3+2]?=some (.int .i64 (Qp of i).c):=by
 rcases K8 h with rfl|rfl|rfl|rfl|rfl<;>exact ⟨rfl,rfl,rfl⟩
theorem Q2z (of:List Jt) (h5:of.length=5) {i:Nat} (h:i<5) (d:Jt):
  (((Nn of).set (i*3) (.int .i64 d.seq)).set (i*3+1) (.int .i64 d.m)).set (i*3+2) (.int .i64 d.c)=Nn (of.set i d):=by
 have hs:=λj=>Ea (of:=of) (i:=i) (by omega) d j;unfold Nn;rcases K8 h with rfl|rfl|rfl|rfl|rfl
 all_goals
  rw [hs 0,hs 1,hs 2,hs 3,hs 4];simp
theorem Qic (d l:Nat) (P:ByteArray) (o:Nat) (st:J7) (m:Nat) (kv:Value):((Fq d l P o st m kv).toList.drop 10).take 15=Nn st.of:=rfl
def Ie (of:List Jt) (L:List Qx):List Jt:=L.foldl Jx of
theorem Bz (of:List Jt) (L:List Qx) (r:Qx):Ie of (L++[r])=Jx (Ie of L) r:=by
 unfold Ie;rw [List.foldl_append];rfl
structure Qjf (of:List Jt):Prop where
 five:of.length=5
 low: ∀i,0<=(Qp of i).seq/\(Qp of i).seq<=1099511627776
theorem Qjf.step {of:List Jt} (h:Qjf of) {r:Qx} (hr:Jv r=true):Qjf (Jx of r):=by
 obtain ⟨hv,e1,e2,e3,_⟩:=Yw.1 hr;obtain ⟨_,o1,o2,_⟩:=Zo.1 hv;refine ⟨by unfold Jx;rw [List.length_set];exact h.five,λi=>?_⟩;unfold Jx;rw [Ea (by rw [h.five];omega)];split
 ·exact ⟨by show 0<=r.seq;omega,e3⟩
 ·exact h.low i
theorem Inv.J64 {o:Nat} {st:J7} (h:Inv o st):Qjf st.of:=⟨h.Qlz,λi=>by
 unfold Qp;rw [List.getD_eq_getElem?_getD];cases hi:st.of[i]? with
 |none=>exact ⟨by decide,by decide⟩
 |some d=>
  have:=h.done d (List.mem_of_getElem? hi);exact ⟨this.1,this.2.1⟩⟩
theorem Qjf.upto: ∀(L:List Qx) {of:List Jt},Qjf of->(∀r∈L,Jv r=true)->Qjf (Ie of L)
 |[],_,h,_=>h
 |r::L,_,h,hL=>Qjf.upto L (h.step (hL r (List.mem_cons_self ..))) λx hx=>hL x (List.mem_cons_of_mem _ hx)
theorem Q5j {st:J7} {L:List Qx} (h:64<L.length):Fk st L=5:=if_pos h
theorem Q5k {st:J7} {L:List Qx} (h: ¬64<L.length) {k:Nat} {r:Qx} (hk:L[k]?=some r) (hr:Jv r=false):Fk st L=1:=by
 unfold Fk;rw [if_neg h,if_pos];cases ha:L.all Jv with
 |false=>rfl
 |true=>
  have:=List.all_eq_true.1 ha r (List.mem_of_getElem? hk);rw [hr] at this;cases this
theorem Qhi {st:J7} {L:List Qx} (h: ¬64<L.length) (hr: ∀r∈L,Jv r=true):Fk st L=if X5 st.mm st.mc st.of L=true then 0 else 12:=by
 unfold Fk;rw [if_neg h,if_neg];rw [List.all_eq_true.2 hr];decide
theorem Qah {mm mc:Int} {of:List Jt}: ∀(L:List Qx) (k:Nat) (r:Qx),L[k]?=some r->X5 mm mc of L=X5 mm mc (Ie of (L.take k)) (L.drop k)->X5 mm mc of L=(F7 mm mc (Ie of (L.take k)) r&&X5 mm mc (Ie of (L.take (k+1))) (L.drop (k+1))):=by
 intro L k r hk h;have hkl:=(List.getElem?_eq_some_iff.1 hk).1;have he:=(List.getElem?_eq_some_iff.1 hk).2;rw [h,List.drop_eq_getElem_cons hkl,he,X5,List.take_succ_eq_append_getElem hkl,he,Bz]
theorem Al (mm mc:Int) (of:List Jt) (r:Qx):F7 mm mc of r=(decide (r.seq=(Qp of r.o.toNat).seq+1)&&(Z6 (Qp of r.o.toNat).m (Qp of r.o.toNat).c r.v.m r.v.c&&Z6 mm mc r.v.m r.v.c)):=rfl
def Q73 (w:World) (l:List UInt8) (e:Ending) (w':World):Prop:=
 ∃a c,e= .returned (.tuple #[.slice a l.length c, .int .i64 0])/\Mer.Own w' 5 1 (.slice a l.length c) l.length (u8s l)/\(∀g,(Value.slice a l.length c).ownBlock=some g->w.heap.size<=g)/\Kp No w w'
theorem Qfe {x y:Int} (hx:0<=x) (hy:0<=y):([x.toNat,y.toNat].map Q2o).toArray= #[.int .i64 x, .int .i64 y]:=by
 simp only [List.map_cons,List.map_nil,Q2o,Int.toNat_of_nonneg hx,Int.toNat_of_nonneg hy]
theorem Qff {x y z u:Int} (hx:0<=x) (hy:0<=y) (hz:0<=z) (hu:0<=u):([x.toNat,y.toNat,z.toNat,u.toNat].map Q2o).toArray= #[.int .i64 x, .int .i64 y, .int .i64 z, .int .i64 u]:=by
 simp only [List.map_cons,List.map_nil,Q2o,Int.toNat_of_nonneg hx,Int.toNat_of_nonneg hy,Int.toNat_of_nonneg hz,Int.toNat_of_nonneg hu]
theorem Qcj (w:World) (x:Qa) (hx:x.rd w) (hr:Jv x.r=true):Calls Tryz.prog 110 #[Ig x] w (Q73 w (U6 x.r)):=by
 obtain ⟨w1,hw1⟩: ∃W,W=w.alloc (.cells (recC x).toArray 46):=⟨_,rfl⟩;have k1:Kp No w w1:=by rw [hw1];exact zK.alloc _
 have b1:w1.heap[w.heap.size]?=some (.cells (recC x).toArray 46 (0,0)):=by rw [hw1];exact heap_alloc_new w _
 have R1:=zz (show w1.rangeAt w.heap.size 0 (recC x) from by have:=Qb b1 0 9;exact this);have his:=Q60 x w1;rw [hr] at his;have HIS:=zz his;have HP:=zz (Br.1 hr);have Q7d:=zz (show Rd w w.heap.size x.a (u8s x.r.v.val) from hx.1);have U8:=zz k1;have HB1:=zz b1;have HW1:=zz hw1;obtain ⟨r,a,cap⟩:=x;simp only at HP Q7d⊢
 have Ds:=zz (show (∀n∈[r.o.toNat,r.seq.toNat],n<=4611686018427387904)/\True/\True from ⟨λn hn=>by
  have h1:=HP.out.o5;have h2:=HP.out.q2;simp only [List.mem_cons,List.not_mem_nil,or_false] at hn;rcases hn with rfl|rfl<;>omega,trivial,trivial⟩)
 unfold Ig recC Qa.sl;unfold recC Qa.sl at HW1;simp only at HW1⊢
 clear k1 b1 hw1 hr his hx;rcases Bool.eq_false_or_eq_true r.v.gone with hg|hg
 ·have Q3i:=zz (show Mk r.v.gone=1 from by rw [hg];rfl);have HG:=zz hg;clear hg;go_enter Tryz.func110,Tryz.ntmps110
  go_upto_region 1 with fail
  rw [<-HW1.out];go_wp2_with (refine Qe rfl 46 _ rfl w.heap.size 0 rfl _ _ R1 Tryz.underlying46 rfl (by kernel_rfl) ?_)
  refine HIS.out.mono ?_;rintro e w2 ⟨rfl,k2⟩;have HB2:=zz (k2.get HB1.out λx=>x);have Qz:=zz (U8.out.trans_same k2);have M8:=zz (Rd.kp Q7d.out Qz.out);have d0:w2.cell? ⟨w.heap.size,0,none⟩=some (.int .i64 r.o):=Q0 HB2.out 0;have d7:w2.cell? ⟨w.heap.size,7,none⟩=some (.bool true):=by rw [<-HG.out];exact Q0 HB2.out 7
  have hl2:=Q3 HB2.out;clear k2;go_upto_region 6 with fail
  have hs3:=Ny.start (Kp.refl No w2);have Qre:w2.heap.size+1=(w2.alloc (.cells #[.slice none 0 0] 121)).heap.size:=by simp
  obtain ⟨b,hb⟩: ∃b,b=w2.heap.size:=⟨_,rfl⟩;go_upto_region 7 with fail
  rw [<-hb] at hs3⊢;obtain ⟨w3,hw3⟩: ∃W,W=w2.alloc (.cells #[.slice none 0 0] 121):=⟨_,rfl⟩;rw [<-hw3] at hs3⊢;have HI3:=zz hs3;clear hs3 hw3 Qre hb d0 d7 hl2;have e0:w3.cell? ⟨w.heap.size,0,none⟩=some (.int .i64 r.o):=Q0 (HI3.out.kp.get HB2.out λx=>x) 0;have e1:w3.cell? ⟨w.heap.size,1,none⟩=some (.int .i64 r.seq):=Q0 (HI3.out.kp.get HB2.out λx=>x) 1;have hl3:=Q3 (HI3.out.kp.get HB2.out λx=>x);have k4:Kp No w3 (w3.alloc (.cells #[.int .i64 r.o, .int .i64 r.seq] 3)):=zK.alloc _;have hn4:=Uh w2 (w3.alloc (.cells #[.int .i64 r.o, .int .i64 r.seq] 3)) b _ [] (HI3.out.keep k4) w3.heap.size 2 [r.o.toNat,r.seq.toNat] 3 Ds.out.1 (by rw [Qfe HP.out.o0 (by have:=HP.out.q1;omega)];exact heap_alloc_new w3 _) (by decide) (by decide) (by decide) (by simp);have Qtf:=zz hn4;clear hn4 k4;go_wp2_with fail
  refine Qtf.out.mono ?_;rintro e w5 ⟨rfl,v5,Qkz,_⟩;have Q3r:=zz Qkz;have hb5:=Q3 (Q3r.out.kp.get HB2.out λx=>x);have e2:w5.cell? ⟨w.heap.size,2,none⟩=some (.string r.key):=Q0 (Q3r.out.kp.get HB2.out λx=>x) 2;obtain ⟨kc,w6,hcv,k6,hs6,Bk,Qgy⟩:=Vc r.key w5;have k7:Kp No w6 (w6.alloc (.cells #[.slice (some ⟨w5.heap.size,0,none⟩) r.key.size kc] 42)):=zK.alloc _
  have Qnu:=M4 w2 (w6.alloc (.cells #[.slice (some ⟨w5.heap.size,0,none⟩) r.key.size kc] 42)) b v5 _ (Q3r.out.keep (k6.trans_same k7)) (some ⟨w5.heap.size,0,none⟩) kc r.key.data.toList
   (λW v' hS=>Ab (Rd.kp Bk k7) (λg o _ ha=>by
    injection ha with ha;injection ha with ha;subst ha;refine ⟨λe=>?_,λe=>?_⟩
    ·have:=Q3 Q3r.out.cell;omega
    ·have:=Q3r.out.own.lt _ e;omega) hS) (by
    have h1:=Ds.out.2.2;have h2:=Vm [r.o.toNat,r.seq.toNat] Ds.out.1;have h3:=HP.out.k2;have h4:=Xz r.key;simp only [List.length_append,List.length_nil,List.length_cons] at h2⊢;omega) w6.heap.size 1 42 (heap_alloc_new w6 _)
  have N7:=zz hcv;have Is:=zz Qnu;have h65:=k6.size;clear Qkz hcv k6 hs6 Bk Qgy k7 Qnu e0 e1 hl3 Qtf;go_wp2_with fail
  rw [N7.out];simp only [Result.andThen_ok];go_wp2_with fail
  refine Is.out.mono ?_;rintro e w8 ⟨rfl,v8,Qnx,_⟩;have Qe9:=zz Qnx;have hb8:=Q3 (Qe9.out.kp.get HB2.out λx=>x);have e3:w8.cell? ⟨w.heap.size,3,none⟩=some (.int .i64 r.v.m):=Q0 (Qe9.out.kp.get HB2.out λx=>x) 3;have e4:w8.cell? ⟨w.heap.size,4,none⟩=some (.int .i64 r.v.c):=Q0 (Qe9.out.kp.get HB2.out λx=>x) 4;have e8:w8.cell? ⟨w.heap.size,8,none⟩=some (.int .i64 r.v.ttl):=Q0 (Qe9.out.kp.get HB2.out λx=>x) 8;have k9:Kp No w8 (w8.alloc (.cells #[.int .i64 r.v.m, .int .i64 r.v.c, .int .i64 1, .int .i64 r.v.ttl] 3)):=zK.alloc _
  have Qwb:=Uh w2 (w8.alloc (.cells #[.int .i64 r.v.m, .int .i64 r.v.c, .int .i64 1, .int .i64 r.v.ttl] 3)) b v8 _ (Qe9.out.keep k9) w8.heap.size 4 [r.v.m.toNat,r.v.c.toNat,(1:Int).toNat,r.v.ttl.toNat] 3 (by
    intro x hx;have h1:=Zh.1 HP.out.st;have h2:=HP.out.t1;simp only [List.mem_cons,List.not_mem_nil,or_false] at hx;rcases hx with rfl|rfl|rfl|rfl<;>omega) (by
    have h1:=Zh.1 HP.out.st;rw [Qff h1.1 h1.2.2.1 (by decide) HP.out.t0];exact heap_alloc_new w8 _) (by decide) (by decide) (by
    have h2:=Vm [r.o.toNat,r.seq.toNat] Ds.out.1;have h3:=HP.out.k2;have h4:=Xz r.key;have h5:=Qm (n:=r.key.data.toList.length) (by rw [h4];omega);unfold Jg;simp only [List.length_append,List.length_nil,List.length_cons] at h2⊢;omega) (by simp)
  have Qth:=zz Qwb;clear Qnx k9 Qwb Is N7 e2 h65;go_wp2_with fail
  refine Qth.out.mono ?_;rintro e wa ⟨rfl,va,Qv0,_⟩;have Qea:=zz Qv0;have hba:=Q3 (Qea.out.kp.get HB2.out λx=>x);have e6:wa.cell? ⟨w.heap.size,6,none⟩=some (.slice a r.v.val.length cap):=Q0 (Qea.out.kp.get HB2.out λx=>x) 6;have kb:Kp No wa (wa.alloc (.cells #[.slice a r.v.val.length cap] 42)):=zK.alloc _
  have hBb:=M4 w2 (wa.alloc (.cells #[.slice a r.v.val.length cap] 42)) b va _ (Qea.out.keep kb) a cap r.v.val
   (λW v' hS=>Ab (Rd.kp (Rd.kp M8.out Qea.out.kp) kb) (λg o h0 ha=>by
    obtain ⟨g',o',ha',hg',_⟩:=M8.out h0;rw [ha] at ha';injection ha' with ha';injection ha' with e1 e2;exact Qea.out.old (by rw [e1];exact hg')) hS) (by
    have h2:=Vm [r.o.toNat,r.seq.toNat] Ds.out.1;have h3:=HP.out.k2;have h4:=Xz r.key;have h5:=Qm (n:=r.key.data.toList.length) (by rw [h4];omega);have h6:=HP.out.vl;have h7:=Zh.1 HP.out.st;have h8:=HP.out.t1
    have h9:=Vm [r.v.m.toNat,r.v.c.toNat,(1:Int).toNat,r.v.ttl.toNat] (by
     intro x hx;simp only [List.mem_cons,List.not_mem_nil,or_false] at hx;rcases hx with rfl|rfl|rfl|rfl<;>omega)
    unfold Jg;simp only [List.length_append,List.length_nil,List.length_cons] at h2 h9⊢;omega) wa.heap.size 1 42 (heap_alloc_new wa _)
  have Qt5:=zz hBb;clear Qv0 kb hBb Qth e3 e4 e8;go_wp2_with fail
  refine Qt5.out.mono ?_;rintro e wc ⟨rfl,vc,Q82,_⟩
  have hl:((([]++[r.o.toNat,r.seq.toNat].flatMap Ql)++Jg r.key.data.toList)++[r.v.m.toNat,r.v.c.toNat,(1:Int).toNat,r.v.ttl.toNat].flatMap Ql)++Jg r.v.val=U6 r:=by
   unfold U6;rw [show Mk r.v.gone=(1:Int).toNat from by rw [Q3i.out];rfl];simp only [List.flatMap_cons,List.flatMap_nil,List.nil_append,List.append_nil,List.append_assoc]
  rw [hl] at Q82;obtain ⟨_,ac,cc,rfl,_⟩:=id Q82.own;have hout:=Oy wc b ac cc (U6 r) Q82.cell Q82.own.rd' (by have:=Uo (Br.2 HP.out);omega);have Q3u:=zz hout;have Qz0:=zz Q82;have hbc:=Q3 Q82.cell;clear Q82 hout hl Qt5 e6;go_wp2_with fail
  refine Q3u.out.mono ?_;rintro e wd ⟨ad,cd,rfl,hod,hfd,kd⟩;have HD:=zz (And.intro hod (And.intro hfd kd));clear hod hfd kd Q3u;go_wp2_with fail
  go_ret2
  have h1:=Qz0.out.kp;have h2:=Qz.out.size;exact ⟨ad,cd,rfl,HD.out.1,λg hg=>Nat.le_trans (Nat.le_trans h2 h1.size) (HD.out.2.1 g hg),(Qz.out.trans_same h1).trans_same HD.out.2.2⟩
 ·have Q3i:=zz (show Mk r.v.gone=0 from by rw [hg];rfl);have HG:=zz hg;clear hg;go_enter Tryz.func110,Tryz.ntmps110
  go_upto_region 1 with fail
  rw [<-HW1.out];go_wp2_with (refine Qe rfl 46 _ rfl w.heap.size 0 rfl _ _ R1 Tryz.underlying46 rfl (by kernel_rfl) ?_)
  refine HIS.out.mono ?_;rintro e w2 ⟨rfl,k2⟩;have HB2:=zz (k2.get HB1.out λx=>x);have Qz:=zz (U8.out.trans_same k2);have M8:=zz (Rd.kp Q7d.out Qz.out);have d0:w2.cell? ⟨w.heap.size,0,none⟩=some (.int .i64 r.o):=Q0 HB2.out 0;have d7:w2.cell? ⟨w.heap.size,7,none⟩=some (.bool false):=by rw [<-HG.out];exact Q0 HB2.out 7
  have hl2:=Q3 HB2.out;clear k2;go_upto_region 6 with fail
  have hs3:=Ny.start (Kp.refl No w2);have Qre:w2.heap.size+1=(w2.alloc (.cells #[.slice none 0 0] 121)).heap.size:=by simp
  obtain ⟨b,hb⟩: ∃b,b=w2.heap.size:=⟨_,rfl⟩;go_upto_region 7 with fail
  rw [<-hb] at hs3⊢;obtain ⟨w3,hw3⟩: ∃W,W=w2.alloc (.cells #[.slice none 0 0] 121):=⟨_,rfl⟩;rw [<-hw3] at hs3⊢;have HI3:=zz hs3;clear hs3 hw3 Qre hb d0 d7 hl2;have e0:w3.cell? ⟨w.heap.size,0,none⟩=some (.int .i64 r.o):=Q0 (HI3.out.kp.get HB2.out λx=>x) 0;have e1:w3.cell? ⟨w.heap.size,1,none⟩=some (.int .i64 r.seq):=Q0 (HI3.out.kp.get HB2.out λx=>x) 1;have hl3:=Q3 (HI3.out.kp.get HB2.out λx=>x);have k4:Kp No w3 (w3.alloc (.cells #[.int .i64 r.o, .int .i64 r.seq] 3)):=zK.alloc _;have hn4:=Uh w2 (w3.alloc (.cells #[.int .i64 r.o, .int .i64 r.seq] 3)) b _ [] (HI3.out.keep k4) w3.heap.size 2 [r.o.toNat,r.seq.toNat] 3 Ds.out.1 (by rw [Qfe HP.out.o0 (by have:=HP.out.q1;omega)];exact heap_alloc_new w3 _) (by decide) (by decide) (by decide) (by simp);have Qtf:=zz hn4;clear hn4 k4;go_wp2_with fail
  refine Qtf.out.mono ?_;rintro e w5 ⟨rfl,v5,Qkz,_⟩;have Q3r:=zz Qkz;have hb5:=Q3 (Q3r.out.kp.get HB2.out λx=>x);have e2:w5.cell? ⟨w.heap.size,2,none⟩=some (.string r.key):=Q0 (Q3r.out.kp.get HB2.out λx=>x) 2;obtain ⟨kc,w6,hcv,k6,hs6,Bk,Qgy⟩:=Vc r.key w5;have k7:Kp No w6 (w6.alloc (.cells #[.slice (some ⟨w5.heap.size,0,none⟩) r.key.size kc] 42)):=zK.alloc _
  have Qnu:=M4 w2 (w6.alloc (.cells #[.slice (some ⟨w5.heap.size,0,none⟩) r.key.size kc] 42)) b v5 _ (Q3r.out.keep (k6.trans_same k7)) (some ⟨w5.heap.size,0,none⟩) kc r.key.data.toList
   (λW v' hS=>Ab (Rd.kp Bk k7) (λg o _ ha=>by
    injection ha with ha;injection ha with ha;subst ha;refine ⟨λe=>?_,λe=>?_⟩
    ·have:=Q3 Q3r.out.cell;omega
    ·have:=Q3r.out.own.lt _ e;omega) hS) (by
    have h1:=Ds.out.2.2;have h2:=Vm [r.o.toNat,r.seq.toNat] Ds.out.1;have h3:=HP.out.k2;have h4:=Xz r.key;simp only [List.length_append,List.length_nil,List.length_cons] at h2⊢;omega) w6.heap.size 1 42 (heap_alloc_new w6 _)
  have N7:=zz hcv;have Is:=zz Qnu;have h65:=k6.size;clear Qkz hcv k6 hs6 Bk Qgy k7 Qnu e0 e1 hl3 Qtf;go_wp2_with fail
  rw [N7.out];simp only [Result.andThen_ok];go_wp2_with fail
  refine Is.out.mono ?_;rintro e w8 ⟨rfl,v8,Qnx,_⟩;have Qe9:=zz Qnx;have hb8:=Q3 (Qe9.out.kp.get HB2.out λx=>x);have e3:w8.cell? ⟨w.heap.size,3,none⟩=some (.int .i64 r.v.m):=Q0 (Qe9.out.kp.get HB2.out λx=>x) 3;have e4:w8.cell? ⟨w.heap.size,4,none⟩=some (.int .i64 r.v.c):=Q0 (Qe9.out.kp.get HB2.out λx=>x) 4;have e8:w8.cell? ⟨w.heap.size,8,none⟩=some (.int .i64 r.v.ttl):=Q0 (Qe9.out.kp.get HB2.out λx=>x) 8;have k9:Kp No w8 (w8.alloc (.cells #[.int .i64 r.v.m, .int .i64 r.v.c, .int .i64 0, .int .i64 r.v.ttl] 3)):=zK.alloc _
  have Qwb:=Uh w2 (w8.alloc (.cells #[.int .i64 r.v.m, .int .i64 r.v.c, .int .i64 0, .int .i64 r.v.ttl] 3)) b v8 _ (Qe9.out.keep k9) w8.heap.size 4 [r.v.m.toNat,r.v.c.toNat,(0:Int).toNat,r.v.ttl.toNat] 3 (by
    intro x hx;have h1:=Zh.1 HP.out.st;have h2:=HP.out.t1;simp only [List.mem_cons,List.not_mem_nil,or_false] at hx;rcases hx with rfl|rfl|rfl|rfl<;>omega) (by
    have h1:=Zh.1 HP.out.st;rw [Qff h1.1 h1.2.2.1 (by decide) HP.out.t0];exact heap_alloc_new w8 _) (by decide) (by decide) (by
    have h2:=Vm [r.o.toNat,r.seq.toNat] Ds.out.1;have h3:=HP.out.k2;have h4:=Xz r.key;have h5:=Qm (n:=r.key.data.toList.length) (by rw [h4];omega);unfold Jg;simp only [List.length_append,List.length_nil,List.length_cons] at h2⊢;omega) (by simp)
  have Qth:=zz Qwb;clear Qnx k9 Qwb Is N7 e2 h65;go_wp2_with fail
  refine Qth.out.mono ?_;rintro e wa ⟨rfl,va,Qv0,_⟩;have Qea:=zz Qv0;have hba:=Q3 (Qea.out.kp.get HB2.out λx=>x);have e6:wa.cell? ⟨w.heap.size,6,none⟩=some (.slice a r.v.val.length cap):=Q0 (Qea.out.kp.get HB2.out λx=>x) 6;have kb:Kp No wa (wa.alloc (.cells #[.slice a r.v.val.length cap] 42)):=zK.alloc _
  have hBb:=M4 w2 (wa.alloc (.cells #[.slice a r.v.val.length cap] 42)) b va _ (Qea.out.keep kb) a cap r.v.val
   (λW v' hS=>Ab (Rd.kp (Rd.kp M8.out Qea.out.kp) kb) (λg o h0 ha=>by
    obtain ⟨g',o',ha',hg',_⟩:=M8.out h0;rw [ha] at ha';injection ha' with ha';injection ha' with e1 e2;exact Qea.out.old (by rw [e1];exact hg')) hS) (by
    have h2:=Vm [r.o.toNat,r.seq.toNat] Ds.out.1;have h3:=HP.out.k2;have h4:=Xz r.key;have h5:=Qm (n:=r.key.data.toList.length) (by rw [h4];omega);have h6:=HP.out.vl;have h7:=Zh.1 HP.out.st;have h8:=HP.out.t1
    have h9:=Vm [r.v.m.toNat,r.v.c.toNat,(0:Int).toNat,r.v.ttl.toNat] (by
     intro x hx;simp only [List.mem_cons,List.not_mem_nil,or_false] at hx;rcases hx with rfl|rfl|rfl|rfl<;>omega)
    unfold Jg;simp only [List.length_append,List.length_nil,List.length_cons] at h2 h9⊢;omega) wa.heap.size 1 42 (heap_alloc_new wa _)
  have Qt5:=zz hBb;clear Qv0 kb hBb Qth e3 e4 e8;go_wp2_with fail
  refine Qt5.out.mono ?_;rintro e wc ⟨rfl,vc,Q82,_⟩
  have hl:((([]++[r.o.toNat,r.seq.toNat].flatMap Ql)++Jg r.key.data.toList)++[r.v.m.toNat,r.v.c.toNat,(0:Int).toNat,r.v.ttl.toNat].flatMap Ql)++Jg r.v.val=U6 r:=by
   unfold U6;rw [show Mk r.v.gone=(0:Int).toNat from by rw [Q3i.out];rfl];simp only [List.flatMap_cons,List.flatMap_nil,List.nil_append,List.append_nil,List.append_assoc]
  rw [hl] at Q82;obtain ⟨_,ac,cc,rfl,_⟩:=id Q82.own;have hout:=Oy wc b ac cc (U6 r) Q82.cell Q82.own.rd' (by have:=Uo (Br.2 HP.out);omega);have Q3u:=zz hout;have Qz0:=zz Q82;have hbc:=Q3 Q82.cell;clear Q82 hout hl Qt5 e6;go_wp2_with fail
  refine Q3u.out.mono ?_;rintro e wd ⟨ad,cd,rfl,hod,hfd,kd⟩;have HD:=zz (And.intro hod (And.intro hfd kd));clear hod hfd kd Q3u;go_wp2_with fail
  go_ret2
  have h1:=Qz0.out.kp;have h2:=Qz.out.size;exact ⟨ad,cd,rfl,HD.out.1,λg hg=>Nat.le_trans (Nat.le_trans h2 h1.size) (HD.out.2.1 g hg),(Qz.out.trans_same h1).trans_same HD.out.2.2⟩
def V2 (w:World) (a:Option Addr) (L:List Qa):Prop:=Rd w w.heap.size a (L.flatMap recC)/\ ∀x∈L,x.rd w
theorem V2.kp {w w':World} {a:Option Addr} {L:List Qa} (h:V2 w a L) (hk:Kp No w w'):V2 w' a L:=⟨Rd.kp h.1 hk,λx hx=>Qd.Fg (h.2 x hx) hk⟩
theorem Yr {w:World} {a:Option Addr} {L:List Qa} (h:Rd w w.heap.size a (L.flatMap recC)) {k:Nat} (hk:k<L.length):
  ∃g off,a=some ⟨g,off,none⟩/\g<w.heap.size/\ ∀W,Kp No w W->W.rangeAt g (off+k*9) (recC L[k]):=by
 obtain ⟨g,off,ha,hc⟩:=Ye (f:=recC) Ad (by decide) h hk;obtain ⟨g',off',ha',hg',_⟩:=h (by rw [Vz recC 9 Ad];omega);rw [ha] at ha';injection ha' with ha';injection ha' with e1 e2;exact ⟨g,off,ha,by rw [e1];exact hg',λW hW j u hu=>hc W hW j u hu⟩
def Qeu (w0:World) (b:Nat) (L:List Qa) (k:Nat) (wr:World):Prop:=
 ∃v,Ny w0 b v (Ql L.length++Vb ((L.take k).map Qa.r)) wr
theorem Qcl (L:List Qx) (r:Qx):Vb (L++[r])=Vb L++Jg (U6 r):=by
 unfold Vb;rw [List.flatMap_append];simp
theorem Q8n (w:World) (a:Option Addr) (cap:Nat) (L:List Qa) (hL:V2 w a L) (hr: ∀x∈L,Jv x.r=true) (hn:L.length<=64):
  Calls Tryz.prog 57 #[.slice a L.length cap] w (Q73 w (Eu (L.map Qa.r))):=by
 obtain ⟨n,U2⟩: ∃n,n=L.length:=⟨_,rfl⟩
 have hr': ∀k,∀r∈(L.take k).map Qa.r,Jv r=true:=λk r h=>by
  obtain ⟨x,hx,rfl⟩:=List.mem_map.1 h;exact hr x (List.mem_of_mem_take hx)
 have hrl: ∀k,(Vb ((L.take k).map Qa.r)).length<=71808:=λk=>by
  have h1:=Kg (hr' k);have h2:=List.length_take_le' k L;rw [List.length_map] at h1;omega
 have Qtu:=zz hrl;have HL:=zz hL;have HR:=zz hr;have HN:=zz U2;have hnn:n<=64:=by omega
 have d0:decide ((64:Int)<(n:Int))=false:=decide_eq_false (by omega);have d0':decide (64<n)=false:=decide_eq_false (by omega);obtain ⟨w1,hw1⟩: ∃W,W=w.alloc (.cells #[.slice none 0 0] 121):=⟨_,rfl⟩;have hs1:=Ny.start (Kp.refl No w);rw [<-hw1] at hs1;have k2:Kp No w1 (w1.alloc (.cells #[.int .i64 (n:Int)] 3)):=zK.alloc _;have hn2:=Uh w (w1.alloc (.cells #[.int .i64 (n:Int)] 3)) w.heap.size _ [] (hs1.keep k2) w1.heap.size 1 [n] 3 (λx hx=>by rw [List.mem_singleton] at hx;omega) (heap_alloc_new w1 _) (by decide) (by decide) (by decide) (by simp);have Qnj:=zz hn2;have HW1:=zz hw1;have HI1:=zz hs1;have hb1:=Q3 hs1.cell;rw [<-U2];clear hL hr U2 hn hs1 hn2 hrl hr' hw1 k2;go_enter Tryz.func57,Tryz.ntmps57
 go_upto_region 4 with fail
 rw [<-HW1.out];go_wp2_with fail
 refine Qnj.out.mono ?_;rintro e w2 ⟨rfl,v2,hI2,_⟩;have Qjr:=zz (show Qeu w w.heap.size L 0 w2 from ⟨v2,by rw [<-HN.out];simpa [Vb] using hI2⟩);clear hI2 Qnj;go_wp2_with fail
 go_loopw [18] (λi wr=> ∃k:Nat,k<=n/\i= .int .i64 (k:Int)/\Hid (Qeu w w.heap.size L k wr)) (λi _=>n-(intOf i).toNat)
 case atStart=>exact ⟨0,Nat.zero_le _,rfl,Qjr⟩
 case round=>
  obtain ⟨k,hk,rfl,HJ⟩:=hrel;obtain ⟨v,hI⟩:=HJ.out;rcases Nat.lt_or_ge k n with hlt|hge
  ·have Hf:k<L.length:=by have:=HN.out;omega
   obtain ⟨g,off,rfl,hgl,hgr⟩:=Yr HL.out.1 Hf;have hxr:=Qd.Fg (HL.out.2 L[k] (List.getElem_mem Hf)) hI.kp;have hxi:=HR.out L[k] (List.getElem_mem Hf)
   have hst:(L.take (k+1)).map Qa.r=(L.take k).map Qa.r++[L[k].r]:=by
    rw [List.take_succ_eq_append_getElem Hf,List.map_append];rfl
   obtain ⟨x,hx⟩: ∃x,x=L[k]:=⟨_,rfl⟩;rw [<-hx] at hgr hxr hxi hst;have R1:=zz (hgr wr hI.kp);have hg3:=hI.kp.lt hgl;obtain ⟨w5,hw5⟩: ∃W,W=wr.alloc (.cells (recC x).toArray 46):=⟨_,rfl⟩;have k5:Kp No wr w5:=by rw [hw5];exact zK.alloc _
   have b5:w5.heap[wr.heap.size]?=some (.cells (recC x).toArray 46 (0,0)):=by rw [hw5];exact heap_alloc_new wr _
   have R5:=zz (show w5.rangeAt wr.heap.size 0 (recC x) from by have:=Qb b5 0 9;exact this);have hl5:=Q3 b5;have henc:=Qcj w5 x (Qd.Fg hxr k5) hxi;have Qj4:=zz henc;have Q0d:=zz hw5;have Q3r:=zz (hI.keep k5);have HST:=zz hst;have J7g:=zz hxi;clear hgr hxr k5 b5 henc hw5 hx hst hxi hgl HJ hI
   go_upto_region 8 with (first
    |(refine Qe rfl 46 _ rfl g (off+k*9) rfl _ _ R1 Tryz.underlying46 rfl (by kernel_rfl) ?_)
    |(refine Qy rfl 46 _ _ rfl wr.heap.size (by rfl) _ _ _ rfl rfl (by kernel_rfl) (by rfl) (by rfl) ?_))
   rw [<-Q0d.out];go_wp2_with (refine Qe rfl 46 _ rfl wr.heap.size 0 rfl _ _ R5 Tryz.underlying46 rfl (by kernel_rfl) ?_)
   refine Qj4.out.mono ?_;rintro e w6 ⟨ae,ce,rfl,hoe,hfe,k6⟩;have Q4j:=Q3r.out.keep k6;obtain ⟨ln,hln⟩: ∃ln,ln=(U6 x.r).length:=⟨_,rfl⟩;have k7:Kp No w6 (w6.alloc (.cells #[.slice ae ln ce] 42)):=zK.alloc _
   have Qnu:=M4 w (w6.alloc (.cells #[.slice ae ln ce] 42)) w.heap.size v _ (Q4j.keep k7) ae ce (U6 x.r)
    (λW v' hS=>Ab (Rd.kp hoe.rd' k7) (λgg o h0 ha=>by
     have h1:=hfe gg (by rw [ha];rfl);refine ⟨λe=>?_,λe=>?_⟩
     ·have:=Q3 Q3r.out.cell;omega
     ·have:=Q3r.out.own.lt _ e;omega) hS) (by
     have h1:=Qtu.out k;have h2:=Uo J7g.out;have h3:=Qm (n:=L.length) (by have:=HN.out;omega);rw [List.length_append];omega) w6.heap.size 1 42 (by rw [hln];exact heap_alloc_new w6 _)
   have Is:=zz Qnu;have Ja2:=zz Q4j;have hb6:=Q3 Q4j.cell;rw [<-hln];clear hoe hfe k6 Q4j k7 Qnu Qj4 hln;go_wp2_with fail
   refine Is.out.mono ?_;rintro e w8 ⟨rfl,v8,Qnx,_⟩;have Yz:=zz (show Qeu w w.heap.size L (k+1) w8 from ⟨v8,by rw [HST.out,Qcl,<-List.append_assoc];exact Qnx⟩);clear Qnx Is;go_wp2_with fail
   go_roundw
   case rel=>exact ⟨k+1,hlt,by go_num,Yz⟩
   case measure=>simp [intOf];omega
  ·obtain rfl:k=n:=by omega
   have hl:Ql L.length++Vb ((L.take k).map Qa.r)=Eu (L.map Qa.r):=by
    unfold Eu;rw [HN.out,List.take_length,List.length_map]
   rw [hl] at hI;obtain ⟨_,ac,cc,rfl,_⟩:=id hI.own
   have hout:=Oy wr w.heap.size ac cc _ hI.cell hI.own.rd' (by
    have:=Qtu.out L.length;have h3:=Qm (n:=L.length) (by have:=HN.out;omega);unfold Eu;rw [List.length_append,List.length_map];rw [List.take_length] at this;omega)
   have Q3u:=zz hout;have HI:=zz hI;have hbr:=Q3 hI.cell;clear hI hout hl hge HJ;go_wp2_with fail
   refine Q3u.out.mono ?_;rintro e wd ⟨ad,cd,rfl,hod,hfd,kd⟩;have HD:=zz (And.intro hod (And.intro hfd kd));clear hod hfd kd Q3u;go_wp2_with fail
   go_ret2
   exact ⟨ad,cd,rfl,HD.out.1,λg hg=>Nat.le_trans HI.out.kp.size (HD.out.2.1 g hg),HI.out.kp.trans_same HD.out.2.2⟩
theorem Qi5 {w:World} {s d l o m:Nat} {P:ByteArray} {st:J7} {cs:Z7} {ka:Option Addr} {kc:Nat} {K:List Qa} (h:Yt w s d l P o st m cs ka kc K) (hof:Qjf st.of)
  (a:Option Addr) (cap:Nat) (L:List Qa) (hL:V2 w a L) (_hc:L.length<=cap) (hcm:L.length<=1000000):
  Calls Tryz.prog 56 #[.pointer (some ⟨s,0,none⟩), .slice a L.length cap] w λe w'=>e= .returned (.int .i64 (Fk st (L.map Qa.r):Nat))/\Kp No w w':=by
 obtain ⟨n,U2⟩: ∃n,n=L.length:=⟨_,rfl⟩;have hsl:=Q3 h.cell;have H:=zz h;have HL:=zz hL;have HN:=zz U2;have Qnk:=zz hof;have hnn:n<=1000000:=by omega
 rw [<-U2];rcases Nat.lt_or_ge 64 n with h64|h64
 ·have d0:decide ((64:Int)<(n:Int))=true:=decide_eq_true (by omega);have d0':decide (64<n)=true:=decide_eq_true h64;have HV:=zz (Q5j (st:=st) (L:=L.map Qa.r) (by rw [List.length_map];omega));clear h hL hof U2 h64 _hc hcm;go_enter Tryz.func56,Tryz.ntmps56
  go_wp2_with fail
  go_ret
  exact ⟨by rw [HV.out];rfl,Kp.refl _ _⟩
 ·have d0:decide ((64:Int)<(n:Int))=false:=decide_eq_false (by omega);have d0':decide (64<n)=false:=decide_eq_false (by omega);have Qt2:=zz (show ¬64<(L.map Qa.r).length from by rw [List.length_map];omega);clear h hL hof U2 _hc hcm;go_enter Tryz.func56,Tryz.ntmps56
  go_wp2_with fail
  go_loopw [16] (λi wr=> ∃k:Nat,k<=n/\i= .int .i64 (k:Int)/\Hid (Kp No w wr)/\Hid (∀x∈L.take k,Jv x.r=true)) (λi _=>n-(intOf i).toNat)
  case atStart=>exact ⟨0,Nat.zero_le _,rfl,zz zK,zz λx hx=>absurd hx (by simp)⟩
  case round=>
   obtain ⟨k,hk,rfl,HK,HA⟩:=hrel;rcases Nat.lt_or_ge k n with hlt|hge
   ·have Hf:k<L.length:=by have:=HN.out;omega
    obtain ⟨g,off,rfl,hgl,hgr⟩:=Yr HL.out.1 Hf;have hst:L.take (k+1)=L.take k++[L[k]]:=List.take_succ_eq_append_getElem Hf;have hxk:(L.map Qa.r)[k]?=some L[k].r:=by rw [List.getElem?_map,List.getElem?_eq_getElem Hf];rfl
    obtain ⟨x,hx⟩: ∃x,x=L[k]:=⟨_,rfl⟩;rw [<-hx] at hgr hst hxk;have R1:=zz (hgr wr HK.out);have hg3:=HK.out.lt hgl;obtain ⟨w5,hw5⟩: ∃W,W=wr.alloc (.cells (recC x).toArray 46):=⟨_,rfl⟩;have k5:Kp No wr w5:=by rw [hw5];exact zK.alloc _
    have b5:w5.heap[wr.heap.size]?=some (.cells (recC x).toArray 46 (0,0)):=by rw [hw5];exact heap_alloc_new wr _
    have R5:=zz (show w5.rangeAt wr.heap.size 0 (recC x) from by have:=Qb b5 0 9;exact this);have hl5:=Q3 b5;have HIS:=zz (Q60 x w5);have Q0d:=zz hw5;have Ga:=zz (HK.out.trans_same k5);have HST:=zz (And.intro hst hxk);clear hgr hst hxk k5 b5 hw5 hx hgl Hf;cases Q1b:Jv x.r with
    |true=>
     have Qk2:=zz Q1b;clear Q1b
     go_upto_region 6 with (first
      |(refine Qe rfl 46 _ rfl g (off+k*9) rfl _ _ R1 Tryz.underlying46 rfl (by kernel_rfl) ?_)
      |(refine Qy rfl 46 _ _ rfl wr.heap.size (by rfl) _ _ _ rfl rfl (by kernel_rfl) (by rfl) (by rfl) ?_))
     rw [<-Q0d.out];go_wp2_with (refine Qe rfl 46 _ rfl wr.heap.size 0 rfl _ _ R5 Tryz.underlying46 rfl (by kernel_rfl) ?_)
     refine HIS.out.mono ?_;rintro e w6 ⟨rfl,k6⟩;rw [Qk2.out];have Gb:=zz (Ga.out.trans_same k6)
     have Qyp:=zz (show ∀y∈L.take (k+1),Jv y.r=true from λy hy=>by
      rw [HST.out.1] at hy;rcases List.mem_append.1 hy with hy|hy
      ·exact HA.out y hy
      ·rw [List.mem_singleton] at hy;rw [hy];exact Qk2.out)
     clear k6;go_wp2_with fail
     go_roundw
     case rel=>exact ⟨k+1,hlt,by go_num,Gb,Qyp⟩
     case measure=>simp [intOf];omega
    |false=>
     have Qk2:=zz (Q5k (st:=st) Qt2.out HST.out.2 Q1b);have Qsf:=zz Q1b;clear Q1b
     go_upto_region 6 with (first
      |(refine Qe rfl 46 _ rfl g (off+k*9) rfl _ _ R1 Tryz.underlying46 rfl (by kernel_rfl) ?_)
      |(refine Qy rfl 46 _ _ rfl wr.heap.size (by rfl) _ _ _ rfl rfl (by kernel_rfl) (by rfl) (by rfl) ?_))
     rw [<-Q0d.out];go_wp2_with (refine Qe rfl 46 _ rfl wr.heap.size 0 rfl _ _ R5 Tryz.underlying46 rfl (by kernel_rfl) ?_)
     refine HIS.out.mono ?_;rintro e w6 ⟨rfl,k6⟩;rw [Qsf.out];have Gb:=zz (Ga.out.trans_same k6);clear k6;go_wp2_with fail
     go_ret
     exact ⟨by rw [Qk2.out];rfl,Gb.out⟩
   ·obtain rfl:n=k:=by omega
    have hall: ∀x∈L,Jv x.r=true:=λx hx=>by
     have:=HA.out;rw [HN.out,List.take_length] at this;exact this x hx
    have E7: ∀r∈L.map Qa.r,Jv r=true:=λr hr=>by
     obtain ⟨x,hx,rfl⟩:=List.mem_map.1 hr;exact hall x hx
    have hval:=Qhi (st:=st) Qt2.out E7
    have Qzu:=zz (show wr.rangeAt s 10 (Nn st.of) from by
     have:=Qb ((H.out.Q5 HK.out).cell) 10 15;rwa [Qic] at this)
    have Qlh:=HK.out.lt hsl;obtain ⟨w7,hw7⟩: ∃W,W=wr.alloc (.cells (Nn st.of).toArray 131):=⟨_,rfl⟩;have k7:Kp No wr w7:=by rw [hw7];exact zK.alloc _
    have b7:w7.heap[wr.heap.size]?=some (.cells (Nn st.of).toArray 131 (0,0)):=by rw [hw7];exact heap_alloc_new wr _
    have Qpg:=zz hw7;have Q3j:=zz (HK.out.trans_same k7);have Is:=zz b7;have Qe6:=zz (And.intro hall E7);have Qeq:=zz hval;obtain ⟨q,hq⟩: ∃q,q=wr.heap.size:=⟨_,rfl⟩;rw [<-hq] at Is;have HQ:=zz (show w.heap.size<=q by rw [hq];exact HK.out.size);clear hall E7 hval hw7 k7 b7 HA hge
    go_upto_region 10 with (first
     |(refine Qe rfl 131 _ rfl s 10 rfl _ _ Qzu Tryz.underlying131 rfl (by kernel_rfl) ?_)
     |(refine Qy rfl 131 _ _ rfl wr.heap.size (by rfl) _ _ _ rfl rfl (by kernel_rfl) (by rfl) (by rfl) ?_))
    rw [<-Qpg.out,<-hq];clear hq;have Qb0:=zz (show X5 st.mm st.mc st.of (L.map Qa.r)=X5 st.mm st.mc (Ie st.of ((L.map Qa.r).take 0)) ((L.map Qa.r).drop 0) from rfl);go_wp2_with fail
    go_loopw [30] (λi wr=> ∃k:Nat,k<=n/\i= .int .i64 (k:Int)/\Hid (Kp No w wr)/\Hid (wr.heap[q]?=some (.cells (Nn (Ie st.of ((L.map Qa.r).take k))).toArray 131 (0,0)))/\Hid (X5 st.mm st.mc st.of (L.map Qa.r)=X5 st.mm st.mc (Ie st.of ((L.map Qa.r).take k)) ((L.map Qa.r).drop k))) (λi _=>n-(intOf i).toNat)
    case atStart=>exact ⟨0,Nat.zero_le _,rfl,Q3j,Is,Qb0⟩
    case round=>
     clear Qb0 Is Q3j;obtain ⟨j,hj,rfl,HK,HB,Qb0⟩:=hrel;rcases Nat.lt_or_ge j n with hlt|hge
     ·have He:j<L.length:=by have:=HN.out;omega
      obtain ⟨g,off,rfl,hgl,hgr⟩:=Yr HL.out.1 He;have hxk:(L.map Qa.r)[j]?=some L[j].r:=by rw [List.getElem?_map,List.getElem?_eq_getElem He];rfl
      have hxi:=Qe6.out.1 L[j] (List.getElem_mem He);have Q2i:=(Qnk.out.upto ((L.map Qa.r).take j) λr hr=>Qe6.out.2 r (List.mem_of_mem_take hr))
      have hst:Ie st.of ((L.map Qa.r).take (j+1))=Jx (Ie st.of ((L.map Qa.r).take j)) L[j].r:=by
       rw [List.take_succ_eq_append_getElem (by rw [List.length_map];exact He),Bz,List.getElem_map]
      have Qgn:=Qah _ j _ hxk Qb0.out;obtain ⟨x,hx⟩: ∃x,x=L[j]:=⟨_,rfl⟩;obtain ⟨OF,Qg1⟩: ∃OF,OF=Ie st.of ((L.map Qa.r).take j):=⟨_,rfl⟩;rw [<-Qg1] at Q2i hst Qgn HB;rw [<-hx] at hgr hst hxi Qgn;rw [hst] at Qgn;obtain ⟨hv,e1,e2,e3,_⟩:=Yw.1 hxi;obtain ⟨_,o1,o2,_⟩:=Zo.1 hv;obtain ⟨oN,Q1a⟩: ∃oN:Nat,x.r.o=(oN:Int):=⟨x.r.o.toNat,by omega⟩;have C7:oN<5:=by omega
      have Q4r:x.r.o.toNat=oN:=by omega
      have hrc:recC x=[.int .i64 (oN:Int), .int .i64 x.r.seq, .string x.r.key, .int .i64 x.r.v.m, .int .i64 x.r.v.c, .int .i64 x.r.v.o,x.sl, .bool x.r.v.gone, .int .i64 x.r.v.ttl]:=by unfold recC;rw [Q1a]
      rw [hrc] at hgr;have R1:=zz (hgr wr HK.out);have hg3:=HK.out.lt hgl;obtain ⟨w8,hw8⟩: ∃W,W=wr.alloc (.cells #[.int .i64 (oN:Int), .int .i64 x.r.seq, .string x.r.key, .int .i64 x.r.v.m, .int .i64 x.r.v.c, .int .i64 x.r.v.o,x.sl, .bool x.r.v.gone, .int .i64 x.r.v.ttl] 46):=⟨_,rfl⟩;have k8:Kp No wr w8:=by rw [hw8];exact zK.alloc _
      have b8:w8.heap[wr.heap.size]?=some (.cells #[.int .i64 (oN:Int), .int .i64 x.r.seq, .string x.r.key, .int .i64 x.r.v.m, .int .i64 x.r.v.c, .int .i64 x.r.v.o,x.sl, .bool x.r.v.gone, .int .i64 x.r.v.ttl] 46 (0,0)):=by rw [hw8];exact heap_alloc_new wr _
      obtain ⟨p,hpq⟩: ∃p,p=wr.heap.size:=⟨_,rfl⟩;rw [<-hpq] at b8;have Qr3:=Q3 b8;have hq8:=Q3 (k8.get HB.out λx=>x);have c0:w8.cell? ⟨p,0,none⟩=some (.int .i64 (oN:Int)):=Q0 b8 0;have Qu4:=zz hw8;have Kx:=zz (HK.out.trans_same k8);have El:=zz (And.intro b8 (k8.get HB.out λx=>x));have HST:=zz (And.intro hst (And.intro Qgn (And.intro Q2i (And.intro Q4r hxi))));have Qxv:=zz (show w.heap.size<=p from by rw [hpq];exact HK.out.size);have Qjn:=Q2i.low oN;have Qh2:0<=x.r.seq/\x.r.seq<=1099511627776:=⟨by omega,e3⟩;clear hgr hst Qgn k8 b8 hw8 hx Qg1 hgl He hxk hxi Q2i hv e1 e2 e3 o1 o2 Q1a Q4r hrc Qb0 HB
      go_upto_region 13 with (first
       |(refine Qe rfl 46 _ rfl g (off+j*9) rfl _ _ R1 Tryz.underlying46 rfl (by kernel_rfl) ?_)
       |(refine Qy rfl 46 _ _ rfl wr.heap.size (by rfl) _ _ _ rfl rfl (by kernel_rfl) (by rfl) (by rfl) ?_))
      rw [<-Qu4.out,<-hpq];clear hpq;go_upto_region 14 with fail
      obtain ⟨sq,Q2k⟩: ∃sq,sq=(Qp OF oN).seq:=⟨_,rfl⟩;obtain ⟨m0,hm0⟩: ∃m0,m0=(Qp OF oN).m:=⟨_,rfl⟩;obtain ⟨c00,Q83⟩: ∃c0,c0=(Qp OF oN).c:=⟨_,rfl⟩;have hg3':=Uc OF C7;rw [<-Q2k] at Qjn;rw [<-Q2k,<-hm0,<-Q83] at hg3';have Qkr: ∀W,Kp No w8 W->W.cell? ⟨p,1,none⟩=some (.int .i64 x.r.seq):=λW hW=>Q0 (hW.get El.out.1 λx=>x) 1
      have Qks: ∀W,Kp No w8 W->W.cell? ⟨q,oN*3,none⟩=some (.int .i64 sq):=λW hW=>by
       rw [Q0 (hW.get El.out.2 λx=>x)];simpa using hg3'.1
      have RP:=zz (show ∀W,Kp No w8 W->W.rangeAt p 3 [.int .i64 x.r.v.m, .int .i64 x.r.v.c] from λW hW=>by have:=Qb (hW.get El.out.1 λx=>x) 3 2;exact this)
      have RQ:=zz (show ∀W,Kp No w8 W->W.rangeAt q (oN*3+1) [.int .i64 m0, .int .i64 c00] from λW hW=>by
       intro jj v hj;rw [Q0 (hW.get El.out.2 λx=>x)];match jj,hj with
       |0,hj=>injection hj with hj;subst hj;simpa using hg3'.2.1
       |1,hj=>injection hj with hj;subst hj;simpa using hg3'.2.2)
      have RS:=zz (show ∀W,Kp No w8 W->W.rangeAt s 8 [.int .i64 st.mm, .int .i64 st.mc] from λW hW=>by have:=Qb ((H.out.Q5 (Kx.out.trans_same hW)).cell) 8 2;exact this);obtain ⟨s1,hs1⟩: ∃s1,s1=sq+1:=⟨_,rfl⟩;have hws:wrap64 (sq+1)=s1:=by rw [IntWalk.wrap64_in _ (by omega),hs1]
      have J24:IntKind.i64.wrap (sq+1)=s1:=(IntWalk.i64_in _ (by omega)).trans hs1.symm;have hs8:=Kx.out.lt hsl;obtain ⟨z1,hz1⟩: ∃z,z=Js x.r.v.m x.r.v.c m0 c00:=⟨_,rfl⟩;obtain ⟨z2,hz2⟩: ∃z,z=Js x.r.v.m x.r.v.c st.mm st.mc:=⟨_,rfl⟩;have hcm1:=λW=>X7 x.r.v.m x.r.v.c m0 c00 W;have hcm2:=λW=>X7 x.r.v.m x.r.v.c st.mm st.mc W;rw [<-hz1] at hcm1;rw [<-hz2] at hcm2;have HCM:=zz (And.intro hcm1 hcm2)
      have hstep:F7 st.mm st.mc OF x.r=(decide (x.r.seq=s1)&&(decide (0<z1)&&decide (0<z2))):=by
       rw [Al,HST.out.2.2.2.1,<-Q2k,<-hs1,<-hm0,<-Q83];congr 1
       congr 1
       ·rw [Bool.eq_iff_iff,decide_eq_true_iff,hz1,(Xi _ _ _ _).2.2]
       ·rw [Bool.eq_iff_iff,decide_eq_true_iff,hz2,(Xi _ _ _ _).2.2]
      have Kn:=zz hstep
      have Qeg:=zz (show F7 st.mm st.mc OF x.r=false->Fk st (L.map Qa.r)=12 from λhf=>by
       rw [Qeq.out,HST.out.2.1,hf];rfl)
      clear Q2k hm0 Q83 hg3' hs1 hz1 hz2 hcm1 hcm2 hstep c0 Qh2;by_cases q1:x.r.seq=s1
      ·have e1:(x.r.seq==s1)=true:=by rw [beq_iff_eq];exact q1
       have e2:(x.r.seq !=s1)=false:=by rw [bne,e1];rfl
       have Qja:=zz q1;clear q1;rcases Int.lt_or_le 0 z1 with q2|q2
       ·have e3:decide (z1<=0)=false:=decide_eq_false (by omega);have Qsd:=zz q2;clear q2;rcases Int.lt_or_le 0 z2 with q3|q3
        ·have e4:decide (z2<=0)=false:=decide_eq_false (by omega);have Qzf:=zz q3;clear q3;refine zD No [0,0,0,0,0,0,0,0,0,0,0,0,0,0,0,0,2,0,0,0,0,0,0,0,0,0,0,2,0,0] [0,1,2,3,4,5,6,7,8,9,10,11,12,13,14,15,16,17,18,19,20,21,22,23,24,25,26,27,28,29] ?_;repeat (first|refine zA ?_|refine zB ?_|refine zC ?_)
         apply Q8 rfl rfl rfl
         ·intro W hW;exact Q9 25 _ rfl p 3 rfl [.int .i64 x.r.v.m, .int .i64 x.r.v.c] _ (RP.out W hW) Tryz.underlying25 rfl (by kernel_rfl)
         ·(focus (go_simp;rfl))
         repeat (first|refine zA ?_|refine zB ?_|refine zC ?_)
         apply Q8 rfl rfl rfl
         ·intro W hW;exact Q9 25 _ rfl q (oN*3+1) rfl [.int .i64 m0, .int .i64 c00] _ (RQ.out W hW) Tryz.underlying25 rfl (by kernel_rfl)
         ·(focus (go_simp;rfl))
         refine Q4 rfl rfl (λn1=>?_);go_wp2_with fail
         refine (HCM.out.1 _).mono ?_;rintro e wa ⟨rfl,Gl⟩;have ka:Kp No w8 wa:=Gl.of_drewN;clear Gl;go_wp2_with fail
         (try refine ⟨ka,?_⟩)
         repeat (first|refine zA ?_|refine zB ?_|refine zC ?_)
         apply Q8 rfl rfl rfl
         ·intro W hW;exact Q9 25 _ rfl p 3 rfl [.int .i64 x.r.v.m, .int .i64 x.r.v.c] _ (RP.out W hW) Tryz.underlying25 rfl (by kernel_rfl)
         ·(focus (go_simp;rfl))
         repeat (first|refine zA ?_|refine zB ?_|refine zC ?_)
         apply Q8 rfl rfl rfl
         ·intro W hW;exact Q9 25 _ rfl s 8 rfl [.int .i64 st.mm, .int .i64 st.mc] _ (RS.out W hW) Tryz.underlying25 rfl (by kernel_rfl)
         ·(focus (go_simp;rfl))
         refine Q4 rfl rfl (λn2=>?_);go_wp2_with fail
         refine (HCM.out.2 _).mono ?_;rintro e wb ⟨rfl,Qh9⟩;have kb:Kp No w8 wb:=ka.trans_same Qh9.of_drewN;clear Qh9 ka;go_wp2_with fail
         (try refine ⟨kb,?_⟩)
         repeat (first|refine zA ?_|refine zB ?_|refine zC ?_)
         refine Q6 (λnq=>?_);obtain ⟨wd,hwd⟩: ∃W,W=wb.drewN nq:=⟨_,rfl⟩;have kd:Kp No w8 wd:=by rw [hwd];exact kb.drewN nq
         have bp:=kd.get El.out.1 λx=>x;have bq:=kd.get El.out.2 λx=>x;have c1:wd.cell? ⟨p,1,none⟩=some (.int .i64 x.r.seq):=Q0 bp 1;have c3:wd.cell? ⟨p,3,none⟩=some (.int .i64 x.r.v.m):=Q0 bp 3;have c4:wd.cell? ⟨p,4,none⟩=some (.int .i64 x.r.v.c):=Q0 bp 4;have Qye:=Q3 bp;have J8y:=Q3 bq;have Lq:=zz (Kx.out.trans_same kd);have J9z:=zz bq;rw [<-hwd];have hT:=HST.out.2.2.2.1;have hset:=Q2z OF HST.out.2.2.1.five C7 ⟨x.r.seq,x.r.v.m,x.r.v.c⟩;have hnew:Jx OF x.r=OF.set oN ⟨x.r.seq,x.r.v.m,x.r.v.c⟩:=by unfold Jx;rw [hT]
         have h9:=Qh (Qh (Qh bq (oN*3) (.int .i64 x.r.seq)) (oN*3+1) (.int .i64 x.r.v.m)) (oN*3+2) (.int .i64 x.r.v.c)
         have Qt3:=zz (show (((wd.setCell ⟨q,oN*3,none⟩ (.int .i64 x.r.seq)).setCell ⟨q,oN*3+1,none⟩ (.int .i64 x.r.v.m)).setCell ⟨q,oN*3+2,none⟩ (.int .i64 x.r.v.c)).heap[q]?=some (.cells (Nn (Ie st.of ((L.map Qa.r).take (j+1)))).toArray 131 (0,0)) from by
          rw [h9,HST.out.1,hnew,<-hset];simp)
         have Q0s:=zz (show Kp No w (((wd.setCell ⟨q,oN*3,none⟩ (.int .i64 x.r.seq)).setCell ⟨q,oN*3+1,none⟩ (.int .i64 x.r.v.m)).setCell ⟨q,oN*3+2,none⟩ (.int .i64 x.r.v.c)) from
          ((Lq.out.setCell (p:=⟨q,oN*3,none⟩) (.inr HQ.out) _).setCell (p:=⟨q,oN*3+1,none⟩) (.inr HQ.out) _).setCell (p:=⟨q,oN*3+2,none⟩) (.inr HQ.out) _)
         have Qp5:=zz (show X5 st.mm st.mc st.of (L.map Qa.r)=X5 st.mm st.mc (Ie st.of ((L.map Qa.r).take (j+1))) ((L.map Qa.r).drop (j+1)) from by
          rw [HST.out.2.1,Kn.out,decide_eq_true Qja.out,decide_eq_true Qsd.out,decide_eq_true Qzf.out,HST.out.1];rfl)
         have f0:=Qc bq (oN*3);have f1:=Qc bq (oN*3+1);have f2:=Qc bq (oN*3+2);have g3:=Uc OF C7;have g0:wd.cell? ⟨q,oN*3,none⟩=some (.int .i64 (Qp OF oN).seq):=by rw [Q0 bq];simpa using g3.1
         have g1:wd.cell? ⟨q,oN*3+1,none⟩=some (.int .i64 (Qp OF oN).m):=by rw [Q0 bq];simpa using g3.2.1
         have g2:wd.cell? ⟨q,oN*3+2,none⟩=some (.int .i64 (Qp OF oN).c):=by rw [Q0 bq];simpa using g3.2.2
         clear hwd kb kd bp bq Qkr Qks hT hset hnew h9 g3;go_wp2_with fail
         go_roundw
         case rel=>exact ⟨j+1,hlt,by go_num,Q0s,Qt3,Qp5⟩
         case measure=>simp [intOf];omega
        ·have e4:decide (z2<=0)=true:=decide_eq_true q3;have HF:=zz (Qeg.out (by rw [Kn.out,decide_eq_false (show ¬0<z2 by omega)];simp));clear q3;refine zD No [0,0,0,0,0,0,0,0,0,0,0,0,0,0,0,0,2,0,0,0,0,0,0,0,0,0,0,2,0,0] [0,1,2,3,4,5,6,7,8,9,10,11,12,13,14,15,16,17,18,19,20,21,22,23,24,25,26,27,28,29] ?_;repeat (first|refine zA ?_|refine zB ?_|refine zC ?_)
         apply Q8 rfl rfl rfl
         ·intro W hW;exact Q9 25 _ rfl p 3 rfl [.int .i64 x.r.v.m, .int .i64 x.r.v.c] _ (RP.out W hW) Tryz.underlying25 rfl (by kernel_rfl)
         ·(focus (go_simp;rfl))
         repeat (first|refine zA ?_|refine zB ?_|refine zC ?_)
         apply Q8 rfl rfl rfl
         ·intro W hW;exact Q9 25 _ rfl q (oN*3+1) rfl [.int .i64 m0, .int .i64 c00] _ (RQ.out W hW) Tryz.underlying25 rfl (by kernel_rfl)
         ·(focus (go_simp;rfl))
         refine Q4 rfl rfl (λn1=>?_);go_wp2_with fail
         refine (HCM.out.1 _).mono ?_;rintro e wa ⟨rfl,Gl⟩;have ka:Kp No w8 wa:=Gl.of_drewN;clear Gl;go_wp2_with fail
         (try refine ⟨ka,?_⟩)
         repeat (first|refine zA ?_|refine zB ?_|refine zC ?_)
         apply Q8 rfl rfl rfl
         ·intro W hW;exact Q9 25 _ rfl p 3 rfl [.int .i64 x.r.v.m, .int .i64 x.r.v.c] _ (RP.out W hW) Tryz.underlying25 rfl (by kernel_rfl)
         ·(focus (go_simp;rfl))
         repeat (first|refine zA ?_|refine zB ?_|refine zC ?_)
         apply Q8 rfl rfl rfl
         ·intro W hW;exact Q9 25 _ rfl s 8 rfl [.int .i64 st.mm, .int .i64 st.mc] _ (RS.out W hW) Tryz.underlying25 rfl (by kernel_rfl)
         ·(focus (go_simp;rfl))
         refine Q4 rfl rfl (λn2=>?_);go_wp2_with fail
         refine (HCM.out.2 _).mono ?_;rintro e wb ⟨rfl,Qh9⟩;have kb:Kp No w8 wb:=ka.trans_same Qh9.of_drewN;clear Qh9 ka;go_wp2_with fail
         (try refine ⟨kb,?_⟩)
         repeat (first|refine zA ?_|refine zB ?_|refine zC ?_)
         refine Q6 (λnq=>?_);have Lq:=zz ((Kx.out.trans_same kb).drewN nq);clear kb Qkr Qks;go_wp2_with fail
         go_ret
         exact ⟨by rw [HF.out];rfl,Lq.out⟩
       ·have e3:decide (z1<=0)=true:=decide_eq_true q2;have HF:=zz (Qeg.out (by rw [Kn.out,decide_eq_false (show ¬0<z1 by omega)];simp));clear q2;refine zD No [0,0,0,0,0,0,0,0,0,0,0,0,0,0,0,0,2,0,0,0,0,0,0,0,0,0,0,2,0,0] [0,1,2,3,4,5,6,7,8,9,10,11,12,13,14,15,16,17,18,19,20,21,22,23,24,25,26,27,28,29] ?_;repeat (first|refine zA ?_|refine zB ?_|refine zC ?_)
        apply Q8 rfl rfl rfl
        ·intro W hW;exact Q9 25 _ rfl p 3 rfl [.int .i64 x.r.v.m, .int .i64 x.r.v.c] _ (RP.out W hW) Tryz.underlying25 rfl (by kernel_rfl)
        ·(focus (go_simp;rfl))
        repeat (first|refine zA ?_|refine zB ?_|refine zC ?_)
        apply Q8 rfl rfl rfl
        ·intro W hW;exact Q9 25 _ rfl q (oN*3+1) rfl [.int .i64 m0, .int .i64 c00] _ (RQ.out W hW) Tryz.underlying25 rfl (by kernel_rfl)
        ·(focus (go_simp;rfl))
        refine Q4 rfl rfl (λn1=>?_);go_wp2_with fail
        refine (HCM.out.1 _).mono ?_;rintro e wa ⟨rfl,Gl⟩;have ka:Kp No w8 wa:=Gl.of_drewN;clear Gl;go_wp2_with fail
        (try refine ⟨ka,?_⟩)
        repeat (first|refine zA ?_|refine zB ?_|refine zC ?_)
        refine Z3 rfl rfl (by rfl) rfl (λn2=>⟨ka.drewN n2,?_⟩);repeat (first|refine zA ?_|refine zB ?_|refine zC ?_)
        refine Q6 (λnq=>?_);have Lq:=zz (((Kx.out.trans_same ka).drewN n2).drewN nq);clear ka Qkr Qks;go_wp2_with fail
        go_ret
        exact ⟨by rw [HF.out];rfl,Lq.out⟩
      ·have e1:(x.r.seq==s1)=false:=by rw [beq_eq_false_iff_ne];exact q1
       have e2:(x.r.seq !=s1)=true:=by rw [bne,e1];rfl
       have HF:=zz (Qeg.out (by rw [Kn.out,decide_eq_false q1];rfl));clear q1;refine zD No [0,0,0,0,0,0,0,0,0,0,0,0,0,0,0,0,2,0,0,0,0,0,0,0,0,0,0,2,0,0] [0,1,2,3,4,5,6,7,8,9,10,11,12,13,14,15,16,17,18,19,20,21,22,23,24,25,26,27,28,29] ?_;repeat (first|refine zA ?_|refine zB ?_|refine zC ?_)
       refine Z3 rfl rfl (by rfl) rfl (λn1=>⟨zK.drewN n1,?_⟩);repeat (first|refine zA ?_|refine zB ?_|refine zC ?_)
       refine Z3 rfl rfl (by rfl) rfl (λn2=>⟨((Kp.refl No _).drewN n1).drewN n2,?_⟩);repeat (first|refine zA ?_|refine zB ?_|refine zC ?_)
       refine Q6 (λnq=>?_);have Lq:=zz (((Kx.out.drewN n1).drewN n2).drewN nq);clear Qkr Qks;go_wp2_with fail
       go_ret
       exact ⟨by rw [HF.out];rfl,Lq.out⟩
     ·have hjn:j=n:=by omega
      have HF:=zz (show Fk st (L.map Qa.r)=0 from by
       rw [Qeq.out,Qb0.out,hjn,HN.out,List.drop_of_length_le (by rw [List.length_map];exact Nat.le_refl _)];rfl)
      clear hjn;go_wp2_with fail
      go_ret
      exact ⟨by rw [HF.out];rfl,HK.out⟩
end Go.Proofs.YtgnkmjeoaoongaaGreatDoor
