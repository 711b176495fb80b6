/- store -/
import Derived.Test.YtgnkmjeoaoongaaGreatDoorVc2
import Derived.Test.YtgnkmjeoaoongaaGreatDoorVc0
set_option maxRecDepth 100000
set_option maxHeartbeats 4000000
namespace Go.Proofs.YtgnkmjeoaoongaaGreatDoor
open Go.RowKit Go.Mer
theorem Q1c {w1 W:World} {b:Nat} {v v':Value} {a:Option Addr} {xs:List Value} (hr:Rd w1 w1.heap.size a xs) (hne: ∀g o,0<xs.length->a=some ⟨g,o,none⟩->g≠b/\v.ownBlock≠some g) (hS:B0 w1 b v W v'):Rd W W.heap.size a xs:=λhx=>by
 obtain ⟨g,off,ha,hg,_,hc⟩:=hr hx;obtain ⟨n1,n2⟩:=hne g off hx ha;refine ⟨g,off,ha,hS.1.lt hg,Nat.le_refl _,λj u hu=>?_⟩;rw [hS.1.cell (p:=⟨g,off+j,none⟩) hg (λh=>h.elim n1 n2)];exact hc j u hu
theorem Lv.old {w0 w1:World} {b:Nat} {v:Value} {l:List UInt8} (h:Lv w0 b v l w1) {g:Nat} (hg:g<w0.heap.size):g≠b/\v.ownBlock≠some g:=
 ⟨λe=>by have:=h.lo;omega,λe=>by have:=h.new g e;omega⟩
theorem Vx (k:ByteArray) (w:World): ∃c W,(convert 9 42 (.string k)).run Tryz.prog w= .ok (.slice (some ⟨w.heap.size,0,none⟩) k.size c) W/\Kp No w W/\W.heap.size=w.heap.size+1/\Rd W W.heap.size (some ⟨w.heap.size,0,none⟩) (u8s k.data.toList)/\
  ∃row m,W.heap[w.heap.size]?=some (.cells row 5 (m,m+1)):=by
 have h:=run_bytes_of_string (P:=Tryz.prog) w 9 42 5 k Tryz.underlying9 Tryz.underlying42 Tryz.underlying5;have hnew:=heap_alloc_new w.drew (.cells (bytesRow k (grownCap w k.size 0 5)) 5 ((bytesRow k (grownCap w k.size 0 5)).size,(bytesRow k (grownCap w k.size 0 5)).size+1));refine ⟨_,_,h,(zK.drew).alloc _,by simp,λhx=>⟨w.heap.size,0,rfl,by simp,Nat.le_refl _,λj u hu=>?_⟩,_,_,hnew⟩
 have hj:j<k.data.size:=by
  have:=(List.getElem?_eq_some_iff.1 hu).1;rwa [Yj,Array.length_toList] at this
 have hb:=bytesRow_at k (grownCap w k.size 0 5) j hj;have hc:(w.drew.alloc (.cells (bytesRow k (grownCap w k.size 0 5)) 5 ((bytesRow k (grownCap w k.size 0 5)).size,(bytesRow k (grownCap w k.size 0 5)).size+1))).cell? ⟨w.heap.size,0+j,none⟩=(bytesRow k (grownCap w k.size 0 5))[0+j]?:=cell_of_row _ _ _ _ _ _ hnew;rw [hc,Nat.zero_add,hb,<-hu,Q9f,Array.getElem?_toList,Array.getElem?_eq_getElem hj];rfl
theorem Qiy (w0 w1:World) (b:Nat) (v:Value) (l:List UInt8) (h:Lv w0 b v l w1) (a:Option Addr) (c:Nat) (p:List UInt8) (hp:Rd w1 w1.heap.size a (u8s p)) (hl:l.length+p.length<=1000000000):
  Calls Tryz.prog 59 #[.pointer (some ⟨b,0,none⟩), .slice a p.length c] w1 λe w'=>e= .returned (.tuple #[])/\ ∃v',Lv w0 b v' (l++p) w'/\B0 w1 b v w' v':=by
 obtain ⟨a',c',W',hrun,hbW,hI,hS⟩:=h.app a c p hp (by omega);have c0:=Q4 h.cell 0;simp at c0
 have hbl:=Q7 h.cell;have cw:W'.cell? ⟨b,0,none⟩=some v:=Q4 hbW 0;have fw:=Qh hbW 0;have J0v:=Q7 hbW;obtain ⟨n,hn⟩: ∃n,n=p.length:=⟨_,rfl⟩;obtain ⟨ln,hln⟩: ∃ln,ln=(l++p).length:=⟨_,rfl⟩;rw [<-hln] at hrun hI hS;rw [<-hn] at hrun⊢;have HX:=zz hrun;have HI:=zz (And.intro hI hS);clear hrun hI hS hbW h hp hl hn hln;go_enter Tryz.func59,Tryz.ntmps59
 go_wp2_with (at_builtin;refine wpList_append_run rfl rfl rfl rfl HX.out ?_)
 refine bodyPost_end (results_none rfl _ _ _) rfl ⟨rfl,_,HI.out⟩
def Qy3 (w0 w1:World) (b:Nat) (v:Value) (l p:List UInt8):Nat->World->Prop
 |0,wr=>wr=w1
 |_+1,wr=> ∃v',Lv w0 b v' (l++Jn p) wr/\B0 w1 b v wr v'
theorem Lo (w0 w1:World) (b:Nat) (v:Value) (l:List UInt8) (h:Lv w0 b v l w1) (a:Option Addr) (cp:Nat) (p:List UInt8) (hp: ∀W v',B0 w1 b v W v'->Rd W W.heap.size a (u8s p)) (hl:l.length+p.length<=900000000)
  (g c:Nat) (t:TypeId) (hg:w1.heap[g]?=some (.cells #[.slice a p.length cp] t (0,0))):
  Calls Tryz.prog 111 #[.pointer (some ⟨b,0,none⟩), .slice (some ⟨g,0,none⟩) 1 c] w1 λe w'=>e= .returned (.tuple #[])/\ ∃v',Lv w0 b v' (l++Jn p) w'/\B0 w1 b v w' v':=by
 obtain ⟨n,hn⟩: ∃n,n=p.length:=⟨_,rfl⟩;have hnb:n<=900000000:=by omega
 rw [<-hn] at hg;have cg:w1.cell? ⟨g,0,none⟩=some (.slice a n cp):=Q4 hg 0;have hgl:=Q7 hg;have hbl:=Q7 h.cell;have H:=zz h;have HP:=zz hp;have HN:=zz hn;have HL:=zz hl;clear h hp hn hl hg;go_enter Tryz.func111,Tryz.ntmps111
 go_wp2_with fail
 go_loopw [8] (λi wr=> ∃j:Nat,j<=1/\i= .int .i64 (j:Int)/\Hid (Qy3 w0 w1 b v l p j wr)) (λi _=>1-(intOf i).toNat)
 case atStart=>exact ⟨0,by omega,rfl,zz rfl⟩
 case round=>
  obtain ⟨j,hj,rfl,HJ⟩:=hrel;rcases (show j=0\/j=1 by omega) with rfl|rfl
  ·have hj0:wr=w1:=HJ.out;subst hj0;clear HJ;obtain ⟨w2,hw2⟩: ∃W,W=wr.alloc (.cells #[.int .i64 (n:Int)] 3):=⟨_,rfl⟩;have k2:Kp No wr w2:=by rw [hw2];exact zK.alloc _
   have b2:w2.heap[wr.heap.size]?=some (.cells ([n].map Q51).toArray 3 (0,0)):=by rw [hw2];exact heap_alloc_new wr _
   have Gm:=En w0 w2 b v l (H.out.keep k2) wr.heap.size 1 [n] 3 (λx hx=>by rw [List.mem_singleton] at hx;omega) b2 (by decide) (by decide) (by have:=HL.out;omega) (by show 1<=100;decide);have Cx:=zz Gm;have HW2:=zz hw2;have J9:=zz k2;clear Gm hw2 k2 b2;rw [show ((0:Nat):Int)=0 from rfl];go_wp2_with fail
   rw [<-HW2.out];refine Cx.out.mono ?_;rintro e w3 ⟨rfl,v3,Jbm,hS3⟩;have Qv2:B0 wr b v w3 v3:=B0.no J9.out hS3;have Quz:Lv w0 b v3 (l++Qq n) w3:=by simpa using Jbm
   have hraw:=Qiy w0 w3 b v3 (l++Qq n) Quz a cp p (HP.out w3 v3 Qv2) (by
    have h1:=J4 (n:=n) (by omega);have h2:=HL.out;rw [List.length_append];omega)
   rw [<-HN.out] at hraw;have HRW:=zz hraw;have J5x:=zz Qv2;have Jge:=Q7 Quz.cell;clear hraw Qv2 Jbm Quz hS3 Cx;go_wp2_with fail
   refine HRW.out.mono ?_;rintro e w4 ⟨rfl,v4,Qxt,hS4⟩;have Y4:=zz (show Qy3 w0 wr b v l p 1 w4 from ⟨v4,by unfold Jn;rw [<-HN.out,<-List.append_assoc];exact Qxt,J5x.out.trans hS4⟩);clear Qxt hS4 HRW;go_wp2_with fail
   go_roundw
   case rel=>exact ⟨1,by omega,rfl,Y4⟩
   case measure=>simp [intOf]
  ·go_wp2_with fail
   exact bodyPost_end (results_none rfl _ _ _) rfl ⟨rfl,HJ.out⟩
def Qa5 (w:World) (l:List UInt8) (e:Ending) (w':World):Prop:=
 ∃a c,e= .returned (.tuple #[.slice a l.length c, .int .i64 0])/\Mer.Own w' 5 1 (.slice a l.length c) l.length (u8s l)/\(∀g,(Value.slice a l.length c).ownBlock=some g->w.heap.size<=g)/\Kp No w w'
theorem Qji {x y:Int} (hx:0<=x) (hy:0<=y):([x.toNat,y.toNat].map Q51).toArray= #[.int .i64 x, .int .i64 y]:=by
 simp only [List.map_cons,List.map_nil,Q51,Int.toNat_of_nonneg hx,Int.toNat_of_nonneg hy]
theorem Qjj {x y z u:Int} (hx:0<=x) (hy:0<=y) (hz:0<=z) (hu:0<=u):([x.toNat,y.toNat,z.toNat,u.toNat].map Q51).toArray= #[.int .i64 x, .int .i64 y, .int .i64 z, .int .i64 u]:=by
 simp only [List.map_cons,List.map_nil,Q51,Int.toNat_of_nonneg hx,Int.toNat_of_nonneg hy,Int.toNat_of_nonneg hz,Int.toNat_of_nonneg hu]
theorem Qgq (w:World) (x:Qe) (hx:x.rd w) (hr:Z4 x.r=true):Calls Tryz.prog 110 #[Cm x] w (Qa5 w (Vl x.r)):=by
 obtain ⟨w1,hw1⟩: ∃W,W=w.alloc (.cells (recC x).toArray 46):=⟨_,rfl⟩;have k1:Kp No w w1:=by rw [hw1];exact zK.alloc _
 have b1:w1.heap[w.heap.size]?=some (.cells (recC x).toArray 46 (0,0)):=by rw [hw1];exact heap_alloc_new w _
 have R1:=zz (show w1.rangeAt w.heap.size 0 (recC x) from by have:=Qg b1 0 9;exact this);have his:=Q8s x w1;rw [hr] at his;have HIS:=zz his;have HP:=zz (Q0m.1 hr);have Qag:=zz (show Rd w w.heap.size x.a (u8s x.r.v.val) from hx.1);have Yq:=zz k1;have HB1:=zz b1;have HW1:=zz hw1;obtain ⟨r,a,cap⟩:=x;simp only at HP Qag⊢
 have Oq:=zz (show (∀n∈[r.o.toNat,r.seq.toNat],n<=4611686018427387904)/\True/\True from ⟨λn hn=>by
  have h1:=HP.out.o5;have h2:=HP.out.q2;simp only [List.mem_cons,List.not_mem_nil,or_false] at hn;rcases hn with rfl|rfl<;>omega,trivial,trivial⟩)
 unfold Cm recC Qe.sl;unfold recC Qe.sl at HW1;simp only at HW1⊢
 clear k1 b1 hw1 hr his hx;rcases Bool.eq_false_or_eq_true r.v.gone with hg|hg
 ·have Q62:=zz (show Ev r.v.gone=1 from by rw [hg];rfl);have HG:=zz hg;clear hg;go_enter Tryz.func110,Tryz.ntmps110
  go_upto_region 1 with fail
  rw [<-HW1.out];go_wp2_with (refine Qj rfl 46 _ rfl w.heap.size 0 rfl _ _ R1 Tryz.underlying46 rfl (by kernel_rfl) ?_)
  refine HIS.out.mono ?_;rintro e w2 ⟨rfl,k2⟩;have HB2:=zz (k2.get HB1.out λx=>x);have J9:=zz (Yq.out.Q0 k2);have Ky:=zz (Rd.kp Qag.out J9.out);have d0:w2.cell? ⟨w.heap.size,0,none⟩=some (.int .i64 r.o):=Q4 HB2.out 0;have d7:w2.cell? ⟨w.heap.size,7,none⟩=some (.bool true):=by rw [<-HG.out];exact Q4 HB2.out 7
  have hl2:=Q7 HB2.out;clear k2;go_upto_region 6 with fail
  have hs3:=Lv.start (Kp.refl No w2);have Qw6:w2.heap.size+1=(w2.alloc (.cells #[.slice none 0 0] 121)).heap.size:=by simp
  obtain ⟨b,hb⟩: ∃b,b=w2.heap.size:=⟨_,rfl⟩;go_upto_region 7 with fail
  rw [<-hb] at hs3⊢;obtain ⟨w3,hw3⟩: ∃W,W=w2.alloc (.cells #[.slice none 0 0] 121):=⟨_,rfl⟩;rw [<-hw3] at hs3⊢;have HI3:=zz hs3;clear hs3 hw3 Qw6 hb d0 d7 hl2;have e0:w3.cell? ⟨w.heap.size,0,none⟩=some (.int .i64 r.o):=Q4 (HI3.out.kp.get HB2.out λx=>x) 0;have e1:w3.cell? ⟨w.heap.size,1,none⟩=some (.int .i64 r.seq):=Q4 (HI3.out.kp.get HB2.out λx=>x) 1;have hl3:=Q7 (HI3.out.kp.get HB2.out λx=>x);have k4:Kp No w3 (w3.alloc (.cells #[.int .i64 r.o, .int .i64 r.seq] 3)):=zK.alloc _;have hn4:=En w2 (w3.alloc (.cells #[.int .i64 r.o, .int .i64 r.seq] 3)) b _ [] (HI3.out.keep k4) w3.heap.size 2 [r.o.toNat,r.seq.toNat] 3 Oq.out.1 (by rw [Qji HP.out.o0 (by have:=HP.out.q1;omega)];exact heap_alloc_new w3 _) (by decide) (by decide) (by decide) (by simp);have Qyr:=zz hn4;clear hn4 k4;go_wp2_with fail
  refine Qyr.out.mono ?_;rintro e w5 ⟨rfl,v5,J0l,_⟩;have Qaa:=zz J0l;have hb5:=Q7 (Qaa.out.kp.get HB2.out λx=>x);have e2:w5.cell? ⟨w.heap.size,2,none⟩=some (.string r.key):=Q4 (Qaa.out.kp.get HB2.out λx=>x) 2;obtain ⟨kc,w6,hcv,k6,hs6,Q0g,Qlb⟩:=Vx r.key w5;have k7:Kp No w6 (w6.alloc (.cells #[.slice (some ⟨w5.heap.size,0,none⟩) r.key.size kc] 42)):=zK.alloc _
  have Qsl:=Lo w2 (w6.alloc (.cells #[.slice (some ⟨w5.heap.size,0,none⟩) r.key.size kc] 42)) b v5 _ (Qaa.out.keep (k6.Q0 k7)) (some ⟨w5.heap.size,0,none⟩) kc r.key.data.toList
   (λW v' hS=>Q1c (Rd.kp Q0g k7) (λg o _ ha=>by
    injection ha with ha;injection ha with ha;subst ha;refine ⟨λe=>?_,λe=>?_⟩
    ·have:=Q7 Qaa.out.cell;omega
    ·have:=Qaa.out.own.lt _ e;omega) hS) (by
    have h1:=Oq.out.2.2;have h2:=U5 [r.o.toNat,r.seq.toNat] Oq.out.1;have h3:=HP.out.k2;have h4:=Xq r.key;simp only [List.length_append,List.length_nil,List.length_cons] at h2⊢;omega) w6.heap.size 1 42 (heap_alloc_new w6 _)
  have Mn:=zz hcv;have Cw:=zz Qsl;have h65:=k6.size;clear J0l hcv k6 hs6 Q0g Qlb k7 Qsl e0 e1 hl3 Qyr;go_wp2_with fail
  rw [Mn.out];simp only [Result.andThen_ok];go_wp2_with fail
  refine Cw.out.mono ?_;rintro e w8 ⟨rfl,v8,Qso,_⟩;have Qie:=zz Qso;have hb8:=Q7 (Qie.out.kp.get HB2.out λx=>x);have e3:w8.cell? ⟨w.heap.size,3,none⟩=some (.int .i64 r.v.m):=Q4 (Qie.out.kp.get HB2.out λx=>x) 3;have e4:w8.cell? ⟨w.heap.size,4,none⟩=some (.int .i64 r.v.c):=Q4 (Qie.out.kp.get HB2.out λx=>x) 4;have e8:w8.cell? ⟨w.heap.size,8,none⟩=some (.int .i64 r.v.ttl):=Q4 (Qie.out.kp.get HB2.out λx=>x) 8;have k9:Kp No w8 (w8.alloc (.cells #[.int .i64 r.v.m, .int .i64 r.v.c, .int .i64 1, .int .i64 r.v.ttl] 3)):=zK.alloc _
  have J1z:=En w2 (w8.alloc (.cells #[.int .i64 r.v.m, .int .i64 r.v.c, .int .i64 1, .int .i64 r.v.ttl] 3)) b v8 _ (Qie.out.keep k9) w8.heap.size 4 [r.v.m.toNat,r.v.c.toNat,(1:Int).toNat,r.v.ttl.toNat] 3 (by
    intro x hx;have h1:=Zw.1 HP.out.st;have h2:=HP.out.t1;simp only [List.mem_cons,List.not_mem_nil,or_false] at hx;rcases hx with rfl|rfl|rfl|rfl<;>omega) (by
    have h1:=Zw.1 HP.out.st;rw [Qjj h1.1 h1.2.2.1 (by decide) HP.out.t0];exact heap_alloc_new w8 _) (by decide) (by decide) (by
    have h2:=U5 [r.o.toNat,r.seq.toNat] Oq.out.1;have h3:=HP.out.k2;have h4:=Xq r.key;have h5:=J4 (n:=r.key.data.toList.length) (by rw [h4];omega);unfold Jn;simp only [List.length_append,List.length_nil,List.length_cons] at h2⊢;omega) (by simp)
  have Qyu:=zz J1z;clear Qso k9 J1z Cw Mn e2 h65;go_wp2_with fail
  refine Qyu.out.mono ?_;rintro e wa ⟨rfl,va,J0n,_⟩;have Qif:=zz J0n;have hba:=Q7 (Qif.out.kp.get HB2.out λx=>x);have e6:wa.cell? ⟨w.heap.size,6,none⟩=some (.slice a r.v.val.length cap):=Q4 (Qif.out.kp.get HB2.out λx=>x) 6;have kb:Kp No wa (wa.alloc (.cells #[.slice a r.v.val.length cap] 42)):=zK.alloc _
  have hBb:=Lo w2 (wa.alloc (.cells #[.slice a r.v.val.length cap] 42)) b va _ (Qif.out.keep kb) a cap r.v.val
   (λW v' hS=>Q1c (Rd.kp (Rd.kp Ky.out Qif.out.kp) kb) (λg o h0 ha=>by
    obtain ⟨g',o',ha',hg',_⟩:=Ky.out h0;rw [ha] at ha';injection ha' with ha';injection ha' with e1 e2;exact Qif.out.old (by rw [e1];exact hg')) hS) (by
    have h2:=U5 [r.o.toNat,r.seq.toNat] Oq.out.1;have h3:=HP.out.k2;have h4:=Xq r.key;have h5:=J4 (n:=r.key.data.toList.length) (by rw [h4];omega);have h6:=HP.out.vl;have h7:=Zw.1 HP.out.st;have h8:=HP.out.t1
    have h9:=U5 [r.v.m.toNat,r.v.c.toNat,(1:Int).toNat,r.v.ttl.toNat] (by
     intro x hx;simp only [List.mem_cons,List.not_mem_nil,or_false] at hx;rcases hx with rfl|rfl|rfl|rfl<;>omega)
    unfold Jn;simp only [List.length_append,List.length_nil,List.length_cons] at h2 h9⊢;omega) wa.heap.size 1 42 (heap_alloc_new wa _)
  have Qyb:=zz hBb;clear J0n kb hBb Qyu e3 e4 e8;go_wp2_with fail
  refine Qyb.out.mono ?_;rintro e wc ⟨rfl,vc,Qba,_⟩
  have hl:((([]++[r.o.toNat,r.seq.toNat].flatMap Qq)++Jn r.key.data.toList)++[r.v.m.toNat,r.v.c.toNat,(1:Int).toNat,r.v.ttl.toNat].flatMap Qq)++Jn r.v.val=Vl r:=by
   unfold Vl;rw [show Ev r.v.gone=(1:Int).toNat from by rw [Q62.out];rfl];simp only [List.flatMap_cons,List.flatMap_nil,List.nil_append,List.append_nil,List.append_assoc]
  rw [hl] at Qba;obtain ⟨_,ac,cc,rfl,_⟩:=id Qba.own;have hout:=Lt wc b ac cc (Vl r) Qba.cell Qba.own.rd' (by have:=Vv (Q0m.2 HP.out);omega);have Qd4:=zz hout;have J5g:=zz Qba;have hbc:=Q7 Qba.cell;clear Qba hout hl Qyb e6;go_wp2_with fail
  refine Qd4.out.mono ?_;rintro e wd ⟨ad,cd,rfl,hod,hfd,kd⟩;have HD:=zz (And.intro hod (And.intro hfd kd));clear hod hfd kd Qd4;go_wp2_with fail
  go_ret2
  have h1:=J5g.out.kp;have h2:=J9.out.size;exact ⟨ad,cd,rfl,HD.out.1,λg hg=>Nat.le_trans (Nat.le_trans h2 h1.size) (HD.out.2.1 g hg),(J9.out.Q0 h1).Q0 HD.out.2.2⟩
 ·have Q62:=zz (show Ev r.v.gone=0 from by rw [hg];rfl);have HG:=zz hg;clear hg;go_enter Tryz.func110,Tryz.ntmps110
  go_upto_region 1 with fail
  rw [<-HW1.out];go_wp2_with (refine Qj rfl 46 _ rfl w.heap.size 0 rfl _ _ R1 Tryz.underlying46 rfl (by kernel_rfl) ?_)
  refine HIS.out.mono ?_;rintro e w2 ⟨rfl,k2⟩;have HB2:=zz (k2.get HB1.out λx=>x);have J9:=zz (Yq.out.Q0 k2);have Ky:=zz (Rd.kp Qag.out J9.out);have d0:w2.cell? ⟨w.heap.size,0,none⟩=some (.int .i64 r.o):=Q4 HB2.out 0;have d7:w2.cell? ⟨w.heap.size,7,none⟩=some (.bool false):=by rw [<-HG.out];exact Q4 HB2.out 7
  have hl2:=Q7 HB2.out;clear k2;go_upto_region 6 with fail
  have hs3:=Lv.start (Kp.refl No w2);have Qw6:w2.heap.size+1=(w2.alloc (.cells #[.slice none 0 0] 121)).heap.size:=by simp
  obtain ⟨b,hb⟩: ∃b,b=w2.heap.size:=⟨_,rfl⟩;go_upto_region 7 with fail
  rw [<-hb] at hs3⊢;obtain ⟨w3,hw3⟩: ∃W,W=w2.alloc (.cells #[.slice none 0 0] 121):=⟨_,rfl⟩;rw [<-hw3] at hs3⊢;have HI3:=zz hs3;clear hs3 hw3 Qw6 hb d0 d7 hl2;have e0:w3.cell? ⟨w.heap.size,0,none⟩=some (.int .i64 r.o):=Q4 (HI3.out.kp.get HB2.out λx=>x) 0;have e1:w3.cell? ⟨w.heap.size,1,none⟩=some (.int .i64 r.seq):=Q4 (HI3.out.kp.get HB2.out λx=>x) 1;have hl3:=Q7 (HI3.out.kp.get HB2.out λx=>x);have k4:Kp No w3 (w3.alloc (.cells #[.int .i64 r.o, .int .i64 r.seq] 3)):=zK.alloc _;have hn4:=En w2 (w3.alloc (.cells #[.int .i64 r.o, .int .i64 r.seq] 3)) b _ [] (HI3.out.keep k4) w3.heap.size 2 [r.o.toNat,r.seq.toNat] 3 Oq.out.1 (by rw [Qji HP.out.o0 (by have:=HP.out.q1;omega)];exact heap_alloc_new w3 _) (by decide) (by decide) (by decide) (by simp);have Qyr:=zz hn4;clear hn4 k4;go_wp2_with fail
  refine Qyr.out.mono ?_;rintro e w5 ⟨rfl,v5,J0l,_⟩;have Qaa:=zz J0l;have hb5:=Q7 (Qaa.out.kp.get HB2.out λx=>x);have e2:w5.cell? ⟨w.heap.size,2,none⟩=some (.string r.key):=Q4 (Qaa.out.kp.get HB2.out λx=>x) 2;obtain ⟨kc,w6,hcv,k6,hs6,Q0g,Qlb⟩:=Vx r.key w5;have k7:Kp No w6 (w6.alloc (.cells #[.slice (some ⟨w5.heap.size,0,none⟩) r.key.size kc] 42)):=zK.alloc _
  have Qsl:=Lo w2 (w6.alloc (.cells #[.slice (some ⟨w5.heap.size,0,none⟩) r.key.size kc] 42)) b v5 _ (Qaa.out.keep (k6.Q0 k7)) (some ⟨w5.heap.size,0,none⟩) kc r.key.data.toList
   (λW v' hS=>Q1c (Rd.kp Q0g k7) (λg o _ ha=>by
    injection ha with ha;injection ha with ha;subst ha;refine ⟨λe=>?_,λe=>?_⟩
    ·have:=Q7 Qaa.out.cell;omega
    ·have:=Qaa.out.own.lt _ e;omega) hS) (by
    have h1:=Oq.out.2.2;have h2:=U5 [r.o.toNat,r.seq.toNat] Oq.out.1;have h3:=HP.out.k2;have h4:=Xq r.key;simp only [List.length_append,List.length_nil,List.length_cons] at h2⊢;omega) w6.heap.size 1 42 (heap_alloc_new w6 _)
  have Mn:=zz hcv;have Cw:=zz Qsl;have h65:=k6.size;clear J0l hcv k6 hs6 Q0g Qlb k7 Qsl e0 e1 hl3 Qyr;go_wp2_with fail
  rw [Mn.out];simp only [Result.andThen_ok];go_wp2_with fail
  refine Cw.out.mono ?_;rintro e w8 ⟨rfl,v8,Qso,_⟩;have Qie:=zz Qso;have hb8:=Q7 (Qie.out.kp.get HB2.out λx=>x);have e3:w8.cell? ⟨w.heap.size,3,none⟩=some (.int .i64 r.v.m):=Q4 (Qie.out.kp.get HB2.out λx=>x) 3;have e4:w8.cell? ⟨w.heap.size,4,none⟩=some (.int .i64 r.v.c):=Q4 (Qie.out.kp.get HB2.out λx=>x) 4;have e8:w8.cell? ⟨w.heap.size,8,none⟩=some (.int .i64 r.v.ttl):=Q4 (Qie.out.kp.get HB2.out λx=>x) 8;have k9:Kp No w8 (w8.alloc (.cells #[.int .i64 r.v.m, .int .i64 r.v.c, .int .i64 0, .int .i64 r.v.ttl] 3)):=zK.alloc _
  have J1z:=En w2 (w8.alloc (.cells #[.int .i64 r.v.m, .int .i64 r.v.c, .int .i64 0, .int .i64 r.v.ttl] 3)) b v8 _ (Qie.out.keep k9) w8.heap.size 4 [r.v.m.toNat,r.v.c.toNat,(0:Int).toNat,r.v.ttl.toNat] 3 (by
    intro x hx;have h1:=Zw.1 HP.out.st;have h2:=HP.out.t1;simp only [List.mem_cons,List.not_mem_nil,or_false] at hx;rcases hx with rfl|rfl|rfl|rfl<;>omega) (by
    have h1:=Zw.1 HP.out.st;rw [Qjj h1.1 h1.2.2.1 (by decide) HP.out.t0];exact heap_alloc_new w8 _) (by decide) (by decide) (by
    have h2:=U5 [r.o.toNat,r.seq.toNat] Oq.out.1;have h3:=HP.out.k2;have h4:=Xq r.key;have h5:=J4 (n:=r.key.data.toList.length) (by rw [h4];omega);unfold Jn;simp only [List.length_append,List.length_nil,List.length_cons] at h2⊢;omega) (by simp)
  have Qyu:=zz J1z;clear Qso k9 J1z Cw Mn e2 h65;go_wp2_with fail
  refine Qyu.out.mono ?_;rintro e wa ⟨rfl,va,J0n,_⟩;have Qif:=zz J0n;have hba:=Q7 (Qif.out.kp.get HB2.out λx=>x);have e6:wa.cell? ⟨w.heap.size,6,none⟩=some (.slice a r.v.val.length cap):=Q4 (Qif.out.kp.get HB2.out λx=>x) 6;have kb:Kp No wa (wa.alloc (.cells #[.slice a r.v.val.length cap] 42)):=zK.alloc _
  have hBb:=Lo w2 (wa.alloc (.cells #[.slice a r.v.val.length cap] 42)) b va _ (Qif.out.keep kb) a cap r.v.val
   (λW v' hS=>Q1c (Rd.kp (Rd.kp Ky.out Qif.out.kp) kb) (λg o h0 ha=>by
    obtain ⟨g',o',ha',hg',_⟩:=Ky.out h0;rw [ha] at ha';injection ha' with ha';injection ha' with e1 e2;exact Qif.out.old (by rw [e1];exact hg')) hS) (by
    have h2:=U5 [r.o.toNat,r.seq.toNat] Oq.out.1;have h3:=HP.out.k2;have h4:=Xq r.key;have h5:=J4 (n:=r.key.data.toList.length) (by rw [h4];omega);have h6:=HP.out.vl;have h7:=Zw.1 HP.out.st;have h8:=HP.out.t1
    have h9:=U5 [r.v.m.toNat,r.v.c.toNat,(0:Int).toNat,r.v.ttl.toNat] (by
     intro x hx;simp only [List.mem_cons,List.not_mem_nil,or_false] at hx;rcases hx with rfl|rfl|rfl|rfl<;>omega)
    unfold Jn;simp only [List.length_append,List.length_nil,List.length_cons] at h2 h9⊢;omega) wa.heap.size 1 42 (heap_alloc_new wa _)
  have Qyb:=zz hBb;clear J0n kb hBb Qyu e3 e4 e8;go_wp2_with fail
  refine Qyb.out.mono ?_;rintro e wc ⟨rfl,vc,Qba,_⟩
  have hl:((([]++[r.o.toNat,r.seq.toNat].flatMap Qq)++Jn r.key.data.toList)++[r.v.m.toNat,r.v.c.toNat,(0:Int).toNat,r.v.ttl.toNat].flatMap Qq)++Jn r.v.val=Vl r:=by
   unfold Vl;rw [show Ev r.v.gone=(0:Int).toNat from by rw [Q62.out];rfl];simp only [List.flatMap_cons,List.flatMap_nil,List.nil_append,List.append_nil,List.append_assoc]
  rw [hl] at Qba;obtain ⟨_,ac,cc,rfl,_⟩:=id Qba.own;have hout:=Lt wc b ac cc (Vl r) Qba.cell Qba.own.rd' (by have:=Vv (Q0m.2 HP.out);omega);have Qd4:=zz hout;have J5g:=zz Qba;have hbc:=Q7 Qba.cell;clear Qba hout hl Qyb e6;go_wp2_with fail
  refine Qd4.out.mono ?_;rintro e wd ⟨ad,cd,rfl,hod,hfd,kd⟩;have HD:=zz (And.intro hod (And.intro hfd kd));clear hod hfd kd Qd4;go_wp2_with fail
  go_ret2
  have h1:=J5g.out.kp;have h2:=J9.out.size;exact ⟨ad,cd,rfl,HD.out.1,λg hg=>Nat.le_trans (Nat.le_trans h2 h1.size) (HD.out.2.1 g hg),(J9.out.Q0 h1).Q0 HD.out.2.2⟩
def Y1 (w:World) (a:Option Addr) (L:List Qe):Prop:=Rd w w.heap.size a (L.flatMap recC)/\ ∀x∈L,x.rd w
theorem Y1.kp {w w':World} {a:Option Addr} {L:List Qe} (h:Y1 w a L) (hk:Kp No w w'):Y1 w' a L:=⟨Rd.kp h.1 hk,λx hx=>Qm.X0 (h.2 x hx) hk⟩
theorem Jx {w:World} {a:Option Addr} {L:List Qe} (h:Rd w w.heap.size a (L.flatMap recC)) {k:Nat} (hk:k<L.length):
  ∃g off,a=some ⟨g,off,none⟩/\g<w.heap.size/\ ∀W,Kp No w W->W.rangeAt g (off+k*9) (recC L[k]):=by
 obtain ⟨g,off,ha,hc⟩:=Zb (f:=recC) Ua (by decide) h hk;obtain ⟨g',off',ha',hg',_⟩:=h (by rw [Xt recC 9 Ua];omega);rw [ha] at ha';injection ha' with ha';injection ha' with e1 e2;exact ⟨g,off,ha,by rw [e1];exact hg',λW hW j u hu=>hc W hW j u hu⟩
def Qiv (w0:World) (b:Nat) (L:List Qe) (k:Nat) (wr:World):Prop:=
 ∃v,Lv w0 b v (Qq L.length++X3 ((L.take k).map Qe.r)) wr
theorem Qgs (L:List Qu) (r:Qu):X3 (L++[r])=X3 L++Jn (Vl r):=by
 unfold X3;rw [List.flatMap_append];simp
theorem Qc8 (w:World) (a:Option Addr) (cap:Nat) (L:List Qe) (hL:Y1 w a L) (hr: ∀x∈L,Z4 x.r=true) (hn:L.length<=64):
  Calls Tryz.prog 57 #[.slice a L.length cap] w (Qa5 w (Fl (L.map Qe.r))):=by
 obtain ⟨n,Xw⟩: ∃n,n=L.length:=⟨_,rfl⟩
 have hr': ∀k,∀r∈(L.take k).map Qe.r,Z4 r=true:=λk r h=>by
  obtain ⟨x,hx,rfl⟩:=List.mem_map.1 h;exact hr x (List.mem_of_mem_take hx)
 have hrl: ∀k,(X3 ((L.take k).map Qe.r)).length<=71808:=λk=>by
  have h1:=Ea (hr' k);have h2:=List.length_take_le' k L;rw [List.length_map] at h1;omega
 have Qzc:=zz hrl;have HL:=zz hL;have HR:=zz hr;have HN:=zz Xw;have hnn:n<=64:=by omega
 have d0:decide ((64:Int)<(n:Int))=false:=decide_eq_false (by omega);have d0':decide (64<n)=false:=decide_eq_false (by omega);obtain ⟨w1,hw1⟩: ∃W,W=w.alloc (.cells #[.slice none 0 0] 121):=⟨_,rfl⟩;have hs1:=Lv.start (Kp.refl No w);rw [<-hw1] at hs1;have k2:Kp No w1 (w1.alloc (.cells #[.int .i64 (n:Int)] 3)):=zK.alloc _;have hn2:=En w (w1.alloc (.cells #[.int .i64 (n:Int)] 3)) w.heap.size _ [] (hs1.keep k2) w1.heap.size 1 [n] 3 (λx hx=>by rw [List.mem_singleton] at hx;omega) (heap_alloc_new w1 _) (by decide) (by decide) (by decide) (by simp);have Qu1:=zz hn2;have HW1:=zz hw1;have HI1:=zz hs1;have hb1:=Q7 hs1.cell;rw [<-Xw];clear hL hr Xw hn hs1 hn2 hrl hr' hw1 k2;go_enter Tryz.func57,Tryz.ntmps57
 go_upto_region 4 with fail
 rw [<-HW1.out];go_wp2_with fail
 refine Qu1.out.mono ?_;rintro e w2 ⟨rfl,v2,hI2,_⟩;have Qx9:=zz (show Qiv w w.heap.size L 0 w2 from ⟨v2,by rw [<-HN.out];simpa [X3] using hI2⟩);clear hI2 Qu1;go_wp2_with fail
 go_loopw [18] (λi wr=> ∃k:Nat,k<=n/\i= .int .i64 (k:Int)/\Hid (Qiv w w.heap.size L k wr)) (λi _=>n-(intOf i).toNat)
 case atStart=>exact ⟨0,Nat.zero_le _,rfl,Qx9⟩
 case round=>
  obtain ⟨k,hk,rfl,HJ⟩:=hrel;obtain ⟨v,hI⟩:=HJ.out;rcases Nat.lt_or_ge k n with hlt|hge
  ·have Y8:k<L.length:=by have:=HN.out;omega
   obtain ⟨g,off,rfl,hgl,hgr⟩:=Jx HL.out.1 Y8;have hxr:=Qm.X0 (HL.out.2 L[k] (List.getElem_mem Y8)) hI.kp;have hxi:=HR.out L[k] (List.getElem_mem Y8)
   have hst:(L.take (k+1)).map Qe.r=(L.take k).map Qe.r++[L[k].r]:=by
    rw [List.take_succ_eq_append_getElem Y8,List.map_append];rfl
   obtain ⟨x,hx⟩: ∃x,x=L[k]:=⟨_,rfl⟩;rw [<-hx] at hgr hxr hxi hst;have R1:=zz (hgr wr hI.kp);have hg3:=hI.kp.lt hgl;obtain ⟨w5,hw5⟩: ∃W,W=wr.alloc (.cells (recC x).toArray 46):=⟨_,rfl⟩;have k5:Kp No wr w5:=by rw [hw5];exact zK.alloc _
   have b5:w5.heap[wr.heap.size]?=some (.cells (recC x).toArray 46 (0,0)):=by rw [hw5];exact heap_alloc_new wr _
   have R5:=zz (show w5.rangeAt wr.heap.size 0 (recC x) from by have:=Qg b5 0 9;exact this);have hl5:=Q7 b5;have henc:=Qgq w5 x (Qm.X0 hxr k5) hxi;have Qny:=zz henc;have Q2w:=zz hw5;have Qaa:=zz (hI.keep k5);have HST:=zz hst;have Jel:=zz hxi;clear hgr hxr k5 b5 henc hw5 hx hst hxi hgl HJ hI
   go_upto_region 8 with (first
    |(refine Qj rfl 46 _ rfl g (off+k*9) rfl _ _ R1 Tryz.underlying46 rfl (by kernel_rfl) ?_)
    |(refine Qy rfl 46 _ _ rfl wr.heap.size (by rfl) _ _ _ rfl rfl (by kernel_rfl) (by rfl) (by rfl) ?_))
   rw [<-Q2w.out];go_wp2_with (refine Qj rfl 46 _ rfl wr.heap.size 0 rfl _ _ R5 Tryz.underlying46 rfl (by kernel_rfl) ?_)
   refine Qny.out.mono ?_;rintro e w6 ⟨ae,ce,rfl,hoe,hfe,k6⟩;have Qpw:=Qaa.out.keep k6;obtain ⟨ln,hln⟩: ∃ln,ln=(Vl x.r).length:=⟨_,rfl⟩;have k7:Kp No w6 (w6.alloc (.cells #[.slice ae ln ce] 42)):=zK.alloc _
   have Qsl:=Lo w (w6.alloc (.cells #[.slice ae ln ce] 42)) w.heap.size v _ (Qpw.keep k7) ae ce (Vl x.r)
    (λW v' hS=>Q1c (Rd.kp hoe.rd' k7) (λgg o h0 ha=>by
     have h1:=hfe gg (by rw [ha];rfl);refine ⟨λe=>?_,λe=>?_⟩
     ·have:=Q7 Qaa.out.cell;omega
     ·have:=Qaa.out.own.lt _ e;omega) hS) (by
     have h1:=Qzc.out k;have h2:=Vv Jel.out;have h3:=J4 (n:=L.length) (by have:=HN.out;omega);rw [List.length_append];omega) w6.heap.size 1 42 (by rw [hln];exact heap_alloc_new w6 _)
   have Cw:=zz Qsl;have J3s:=zz Qpw;have hb6:=Q7 Qpw.cell;rw [<-hln];clear hoe hfe k6 Qpw k7 Qsl Qny hln;go_wp2_with fail
   refine Cw.out.mono ?_;rintro e w8 ⟨rfl,v8,Qso,_⟩;have Y4:=zz (show Qiv w w.heap.size L (k+1) w8 from ⟨v8,by rw [HST.out,Qgs,<-List.append_assoc];exact Qso⟩);clear Qso Cw;go_wp2_with fail
   go_roundw
   case rel=>exact ⟨k+1,hlt,by go_num,Y4⟩
   case measure=>simp [intOf];omega
  ·obtain rfl:k=n:=by omega
   have hl:Qq L.length++X3 ((L.take k).map Qe.r)=Fl (L.map Qe.r):=by
    unfold Fl;rw [HN.out,List.take_length,List.length_map]
   rw [hl] at hI;obtain ⟨_,ac,cc,rfl,_⟩:=id hI.own
   have hout:=Lt wr w.heap.size ac cc _ hI.cell hI.own.rd' (by
    have:=Qzc.out L.length;have h3:=J4 (n:=L.length) (by have:=HN.out;omega);unfold Fl;rw [List.length_append,List.length_map];rw [List.take_length] at this;omega)
   have Qd4:=zz hout;have HI:=zz hI;have hbr:=Q7 hI.cell;clear hI hout hl hge HJ;go_wp2_with fail
   refine Qd4.out.mono ?_;rintro e wd ⟨ad,cd,rfl,hod,hfd,kd⟩;have HD:=zz (And.intro hod (And.intro hfd kd));clear hod hfd kd Qd4;go_wp2_with fail
   go_ret2
   exact ⟨ad,cd,rfl,HD.out.1,λg hg=>Nat.le_trans HI.out.kp.size (HD.out.2.1 g hg),HI.out.kp.Q0 HD.out.2.2⟩
end Go.Proofs.YtgnkmjeoaoongaaGreatDoor
