/- store -/
import Derived.Test.YtgnkmjeoaoongaaGreatDoorVc1
import Derived.Test.YtgnkmjeoaoongaaGreatDoorVc0
set_option maxRecDepth 100000
set_option maxHeartbeats 2000000
namespace Go.Proofs.YtgnkmjeoaoongaaGreatDoor
open Go.RowKit Go.Mer
def Mf (of:List Z1):List Value:=
 [.int .i64 (Qn of 0).seq, .int .i64 (Qn of 0).m, .int .i64 (Qn of 0).c, .int .i64 (Qn of 1).seq, .int .i64 (Qn of 1).m, .int .i64 (Qn of 1).c,
  .int .i64 (Qn of 2).seq, .int .i64 (Qn of 2).m, .int .i64 (Qn of 2).c, .int .i64 (Qn of 3).seq, .int .i64 (Qn of 3).m, .int .i64 (Qn of 3).c,
  .int .i64 (Qn of 4).seq, .int .i64 (Qn of 4).m, .int .i64 (Qn of 4).c]
theorem O6 {i:Nat} (h:i<5):i=0\/i=1\/i=2\/i=3\/i=4:=by omega
theorem U9 (of:List Z1) {i:Nat} (h:i<5):(Mf of)[i*3]?=some (.int .i64 (Qn of i).seq)/\(Mf of)[i*3+1]?=some (.int .i64 (Qn of i).m)/\(Mf of)[i*3+2]?=some (.int .i64 (Qn of i).c):=by
 rcases O6 h with rfl|rfl|rfl|rfl|rfl<;>exact ⟨rfl,rfl,rfl⟩
theorem Q5e (of:List Z1) (h5:of.length=5) {i:Nat} (h:i<5) (d:Z1):
  (((Mf of).set (i*3) (.int .i64 d.seq)).set (i*3+1) (.int .i64 d.m)).set (i*3+2) (.int .i64 d.c)=Mf (of.set i d):=by
 have hs:=λj=>Fm (of:=of) (i:=i) (by omega) d j;unfold Mf;rcases O6 h with rfl|rfl|rfl|rfl|rfl
 all_goals
  rw [hs 0,hs 1,hs 2,hs 3,hs 4];simp
theorem Qej (d l:Nat) (P:ByteArray) (o:Nat) (st:Ja) (m:Nat) (kv:Value):((F8 d l P o st m kv).toList.drop 10).take 15=Mf st.of:=rfl
def Cl (of:List Z1) (L:List Qu):List Z1:=L.foldl Z2 of
theorem Q0y (of:List Z1) (L:List Qu) (r:Qu):Cl of (L++[r])=Z2 (Cl of L) r:=by
 unfold Cl;rw [List.foldl_append];rfl
structure Qo6 (of:List Z1):Prop where
 five:of.length=5
 low: ∀i,0<=(Qn of i).seq/\(Qn of i).seq<=1099511627776
theorem Qo6.step {of:List Z1} (h:Qo6 of) {r:Qu} (hr:Z4 r=true):Qo6 (Z2 of r):=by
 obtain ⟨hv,e1,e2,e3,_⟩:=Y9.1 hr;obtain ⟨_,o1,o2,_⟩:=Zi.1 hv;refine ⟨by unfold Z2;rw [List.length_set];exact h.five,λi=>?_⟩;unfold Z2;rw [Fm (by rw [h.five];omega)];split
 ·exact ⟨by show 0<=r.seq;omega,e3⟩
 ·exact h.low i
theorem Inv.Jcx {o:Nat} {st:Ja} (h:Inv o st):Qo6 st.of:=⟨h.Qoe,λi=>by
 unfold Qn;rw [List.getD_eq_getElem?_getD];cases hi:st.of[i]? with
 |none=>exact ⟨by decide,by decide⟩
 |some d=>
  have:=h.done d (List.mem_of_getElem? hi);exact ⟨this.1,this.2.1⟩⟩
theorem Qo6.upto: ∀(L:List Qu) {of:List Z1},Qo6 of->(∀r∈L,Z4 r=true)->Qo6 (Cl of L)
 |[],_,h,_=>h
 |r::L,_,h,hL=>Qo6.upto L (h.step (hL r (List.mem_cons_self ..))) λx hx=>hL x (List.mem_cons_of_mem _ hx)
theorem Q89 {st:Ja} {L:List Qu} (h:64<L.length):V7 st L=5:=if_pos h
theorem Q8a {st:Ja} {L:List Qu} (h: ¬64<L.length) {k:Nat} {r:Qu} (hk:L[k]?=some r) (hr:Z4 r=false):V7 st L=1:=by
 unfold V7;rw [if_neg h,if_pos];cases ha:L.all Z4 with
 |false=>rfl
 |true=>
  have:=List.all_eq_true.1 ha r (List.mem_of_getElem? hk);rw [hr] at this;cases this
theorem Qc3 {st:Ja} {L:List Qu} (h: ¬64<L.length) (hr: ∀r∈L,Z4 r=true):V7 st L=if Xx st.mm st.mc st.of L=true then 0 else 12:=by
 unfold V7;rw [if_neg h,if_neg];rw [List.all_eq_true.2 hr];decide
theorem Qe3 {mm mc:Int} {of:List Z1}: ∀(L:List Qu) (k:Nat) (r:Qu),L[k]?=some r->Xx mm mc of L=Xx mm mc (Cl of (L.take k)) (L.drop k)->Xx mm mc of L=(Uv mm mc (Cl of (L.take k)) r&&Xx mm mc (Cl of (L.take (k+1))) (L.drop (k+1))):=by
 intro L k r hk h;have hkl:=(List.getElem?_eq_some_iff.1 hk).1;have he:=(List.getElem?_eq_some_iff.1 hk).2;rw [h,List.drop_eq_getElem_cons hkl,he,Xx,List.take_succ_eq_append_getElem hkl,he,Q0y]
theorem Le (mm mc:Int) (of:List Z1) (r:Qu):Uv mm mc of r=(decide (r.seq=(Qn of r.o.toNat).seq+1)&&(Zq (Qn of r.o.toNat).m (Qn of r.o.toNat).c r.v.m r.v.c&&Zq mm mc r.v.m r.v.c)):=rfl
theorem N7 (k:Int) (w:World):Calls Tryz.prog 93 #[.bool true, .int .i64 k] w λe w'=>e= .returned (.tuple #[])/\w=w':=by
 go_enter Tryz.func93,Tryz.ntmps93
 go_wp2_with fail
 refine bodyPost_end (results_none rfl _ _ _) rfl ⟨rfl,rfl⟩
section
variable {w:World} {s d l o m:Nat} {P:ByteArray} {st:Ja} {cs:Zn} {ka:Option Addr} {kc:Nat} {K:List Qe}
theorem Ng (h:X6 w s d l P o st m cs ka kc K):Calls Tryz.prog 55 #[.pointer (some ⟨s,0,none⟩)] w λe w'=>e= .returned (.int .i64 (if st.dead=true then 9 else 0))/\w=w':=by
 have c6:w.cell? ⟨s,6,none⟩=some (.bool st.dead):=h.at_ zK 6;have hl:=Q7 h.cell;clear h;cases hd:st.dead with
 |true=>
  rw [hd] at c6;clear hd;go_enter Tryz.func55,Tryz.ntmps55
  go_wp2_with fail
  go_ret
  exact ⟨rfl,rfl⟩
 |false=>
  rw [hd] at c6;clear hd;go_enter Tryz.func55,Tryz.ntmps55
  go_wp2_with fail
  go_ret
  exact ⟨rfl,rfl⟩
theorem Qm5 (h:X6 w s d l P o st m cs ka kc K):Calls Tryz.prog 45 #[.pointer (some ⟨s,0,none⟩)] w λe w'=>e= .returned (Xl st.mm st.mc)/\Kp No w w':=by
 have c8:w.cell? ⟨s,8,none⟩=some (.int .i64 st.mm):=h.at_ zK 8;have c9:w.cell? ⟨s,9,none⟩=some (.int .i64 st.mc):=h.at_ zK 9;have hl:=Q7 h.cell;clear h;go_enter Tryz.func45,Tryz.ntmps45
 go_wp2_with fail
 exact bodyPost_ret (v:=Xl st.mm st.mc) (by simp [results,Tryz.results45,go_sem]) rfl ⟨rfl,zK.alloc _⟩
theorem Qp2 (h:X6 w s d l P o st m cs ka kc K):Calls Tryz.prog 20 #[.pointer (some ⟨s,0,none⟩)] w λe w'=>e= .returned (.tuple #[.int .i64 (st.Zc:Int), .int .i64 (st.n:Int)])/\Kp No w w':=by
 have c4:w.cell? ⟨s,4,none⟩=some (.int .i64 (st.Zc:Int)):=h.at_ zK 4;have c5:w.cell? ⟨s,5,none⟩=some (.int .i64 (st.n:Int)):=h.at_ zK 5;have hl:=Q7 h.cell;clear h;go_enter Tryz.func20,Tryz.ntmps20
 go_upto_region 3 with fail
 refine zE [0,0,0,1,0,0,0,1,0,0] [0,1,2,4,5,6,3,8,7,9] ?_;repeat (first|refine zA ?_|refine zB ?_|refine zC ?_)
 refine Qa (λnq=>?_);go_wp2_with fail
 go_ret2
 exact ⟨rfl,zK.drewN _⟩
end
theorem Qe4 {w:World} {s d l o m:Nat} {P:ByteArray} {st:Ja} {cs:Zn} {ka:Option Addr} {kc:Nat} {K:List Qe} (h:X6 w s d l P o st m cs ka kc K) (t1 t2:Int):
  Calls Tryz.prog 78 #[.pointer (some ⟨s,0,none⟩),Xl t1 t2] w λe w'=>e= .returned (.int .i64 (if Zq t1 t2 st.mm st.mc=true then 19 else 0))/\Kp No w w':=by
 obtain ⟨w1,hw1⟩: ∃W,W=w.alloc (.cells #[.int .i64 t1, .int .i64 t2] 25):=⟨_,rfl⟩;have k1:Kp No w w1:=by rw [hw1];exact zK.alloc _
 have b1:w1.heap[w.heap.size]?=some (.cells #[.int .i64 t1, .int .i64 t2] 25 (0,0)):=by rw [hw1];exact heap_alloc_new w _
 have c0: ∀W,Kp No w1 W->W.cell? ⟨w.heap.size,0,none⟩=some (.int .i64 t1):=λW hW=>Q4 (hW.get b1 λx=>x) 0;have c1: ∀W,Kp No w1 W->W.cell? ⟨w.heap.size,1,none⟩=some (.int .i64 t2):=λW hW=>Q4 (hW.get b1 λx=>x) 1;have c8: ∀W,Kp No w1 W->W.cell? ⟨s,8,none⟩=some (.int .i64 st.mm):=λW hW=>h.at_ (k1.Q0 hW) 8;have c9: ∀W,Kp No w1 W->W.cell? ⟨s,9,none⟩=some (.int .i64 st.mc):=λW hW=>h.at_ (k1.Q0 hW) 9;have hl:=k1.lt (Q7 h.cell);have hl1:=Q7 b1;have hz:=(Vf t1 t2 st.mm st.mc).2.1;have hcm:=λW=>Vn t1 t2 st.mm st.mc W;obtain ⟨z,hzz⟩: ∃z,z=Z6 t1 t2 st.mm st.mc:=⟨_,rfl⟩;rw [<-hzz] at hz hcm;have HCM:=zz hcm;have HZ:=zz hz;have Yq:=zz k1;have HW1:=zz hw1;clear h k1 b1 hw1 hz hcm hzz;rcases Int.lt_or_le z 0 with hd|hd
 ·have e1:decide (z<0)=true:=decide_eq_true hd;have HR:=zz (show Zq t1 t2 st.mm st.mc=true from HZ.out.1 hd);clear hd;go_enter Tryz.func78,Tryz.ntmps78
  go_upto_region 3 with fail
  rw [<-HW1.out];refine zD No [0,0,0,0,0,2,0,0] [0,1,2,3,4,5,6,7] ?_;repeat (first|refine zA ?_|refine zB ?_|refine zC ?_)
  refine Q8 rfl rfl (λq=>?_);go_wp2_with fail
  refine (HCM.out _).mono ?_;rintro e w2 ⟨rfl,k2⟩;go_wp2_with fail
  (try refine ⟨k2.Qf,?_⟩)
  repeat (first|refine zA ?_|refine zB ?_|refine zC ?_)
  refine Qa (λnq=>?_);have J9:=zz (Yq.out.Q0 (k2.Qf.drewN nq));clear k2;go_wp2_with fail
  go_ret
  exact ⟨rfl,J9.out⟩
 ·have e1:decide (z<0)=false:=decide_eq_false (by omega);have HR:=zz (show ¬Zq t1 t2 st.mm st.mc=true from λhh=>by have:=HZ.out.2 hh;omega);clear hd;go_enter Tryz.func78,Tryz.ntmps78
  go_upto_region 3 with fail
  rw [<-HW1.out];refine zD No [0,0,0,0,0,2,0,0] [0,1,2,3,4,5,6,7] ?_;repeat (first|refine zA ?_|refine zB ?_|refine zC ?_)
  refine Q8 rfl rfl (λq=>?_);go_wp2_with fail
  refine (HCM.out _).mono ?_;rintro e w2 ⟨rfl,k2⟩;go_wp2_with fail
  (try refine ⟨k2.Qf,?_⟩)
  repeat (first|refine zA ?_|refine zB ?_|refine zC ?_)
  refine Qa (λnq=>?_);have J9:=zz (Yq.out.Q0 (k2.Qf.drewN nq));clear k2;go_wp2_with fail
  go_ret
  exact ⟨rfl,J9.out⟩
def Qcy (w:World) (q:Option (List UInt8)×Int) (e:Ending) (w':World):Prop:=
 match q.1 with
 |none=>e= .returned (.tuple #[.slice none 0 0, .bool false, .int .i64 q.2])/\Kp No w w'
 |some l=> ∃a cap,e= .returned (.tuple #[.slice a l.length cap, .bool true, .int .i64 q.2])/\Own w' 5 1 (.slice a l.length cap) l.length (u8s l)/\(∀g,(Value.slice a l.length cap).ownBlock=some g->w.heap.size<=g)/\Kp No w w'
theorem Q4n {st:Ja} {k:ByteArray} {m c:Int} (h:Zq m c st.mm st.mc=true):Eu st k m c=(none,19):=if_pos h
theorem I7 {st:Ja} {k:ByteArray} {m c:Int} (h: ¬Zq m c st.mm st.mc=true):Eu st k m c=(Uh (Qw st.keys k) m c,0):=if_neg h
def Qtl (cs:Zn):Prop:= ∀p∈cs,p.2.R.length<=1000000/\ ∀v∈p.2.vs,X8 v=true
theorem Qdc (w:World) (k0:Zs) (m c:Int) (hm:m<=9223372036854775807) (hc:Xr 203 w k0) (hn:k0.R.length<=1000000) (hv: ∀v∈k0.vs,X8 v=true):
  Calls Tryz.prog 79 #[.pointer (some ⟨k0.b,0,none⟩),Xl m c] w (Qtn w (Uh k0.vs m c)):=by
 rw [I6]
 have hin: ∀v,Qau k0.vs m c=some v->X8 v=true:=λv h=>by
  obtain ⟨u,_,hu⟩:=Lw h;exact hv v (List.mem_of_getElem? hu)
 refine Q6s w (some ⟨k0.b,0,none⟩) m c (Qau k0.vs m c) hm (λW hW=>?_) hin;cases ho:Qau k0.vs m c with
 |none=>
  have hu:=λW' (hW':Kp No W W')=>Q32 W' k0 m c (hc.Q9 (hW.Q0 hW')) hn;rw [Q6q.1 ho] at hu;exact Q6r W _ m c hu
 |some v=>exact Qjd W k0 m c (hc.Q9 hW) hn v ho (by have:=(Zi.1 (hin v ho)).2.2.2.1;omega)
theorem Qp5 (w:World) (m c:Int) (hm:m<=9223372036854775807):Calls Tryz.prog 79 #[.pointer none,Xl m c] w (Qtn w none):=
 Q6s w none m c none hm (λW _=>Q6r W none m c λW' _=>Qff W' m c) λv h=>by cases h
theorem Qmu {w:World} {s d l o m:Nat} {P:ByteArray} {st:Ja} {cs:Zn} {ka:Option Addr} {kc:Nat} {K:List Qe} (h:X6 w s d l P o st m cs ka kc K) (hf:Qtl cs) (k:ByteArray) (t1 t2:Int) (ht:t1<=9223372036854775807):
  Calls Tryz.prog 26 #[.pointer (some ⟨s,0,none⟩), .string k,Xl t1 t2] w (Qcy w (Eu st k t1 t2)):=by
 obtain ⟨w1,hw1⟩: ∃W,W=w.alloc (.cells #[.int .i64 t1, .int .i64 t2] 25):=⟨_,rfl⟩;have k1:Kp No w w1:=by rw [hw1];exact zK.alloc _
 have b1:w1.heap[w.heap.size]?=some (.cells #[.int .i64 t1, .int .i64 t2] 25 (0,0)):=by rw [hw1];exact heap_alloc_new w _
 have c0:w1.cell? ⟨w.heap.size,0,none⟩=some (.int .i64 t1):=Q4 b1 0;have c1:w1.cell? ⟨w.heap.size,1,none⟩=some (.int .i64 t2):=Q4 b1 1;have hl1:=Q7 b1;have hsl:=Q7 h.cell;have hold:=Qe4 (h.Q9 k1) t1 t2;have Yq:=zz k1;have HB1:=zz b1;have HW1:=zz hw1;have H:=zz h;have HF:=zz hf;by_cases hlt:Zq t1 t2 st.mm st.mc=true
 ·rw [if_pos hlt] at hold;have HOLD:=zz hold;rw [Q4n hlt];clear h hf k1 b1 hw1 hold hlt;go_enter Tryz.func26,Tryz.ntmps26
  go_upto_region 1 with fail
  rw [<-HW1.out];go_wp2_with fail
  refine HOLD.out.mono ?_;rintro e w2 ⟨rfl,k2⟩;have J9:=zz (Yq.out.Q0 k2);clear k2 c0 c1 hl1;go_wp2_with fail
  exact bodyPost_ret (v:= .tuple #[.slice none 0 0, .bool false, .int .i64 19]) (by simp [results,Tryz.results26,go_sem]) rfl ⟨rfl,J9.out⟩
 ·rw [if_neg hlt] at hold;have HOLD:=zz hold;rw [I7 hlt];clear h hf k1 b1 hw1 hold hlt;go_enter Tryz.func26,Tryz.ntmps26
  go_upto_region 1 with fail
  rw [<-HW1.out];go_wp2_with fail
  refine HOLD.out.mono ?_;rintro e w2 ⟨rfl,k2⟩;have J9:=zz (Yq.out.Q0 k2);have HB2:=zz (k2.get HB1.out λx=>x);have hl2:=Q7 HB2.out;have hs2:=J9.out.lt hsl;have f7: ∀W,Kp No w2 W->W.cell? ⟨s,7,none⟩=some (.map (some m)):=λW hW=>H.out.at_ (J9.out.Q0 hW) 7;have lk: ∀W,Kp No w2 W->(Instr.lookup 128 (.map (some m)) (.string k) false).run Tryz.prog W= .ok ((Qs (Vr cs) k).getD (.pointer none)) W:=λW hW=>G4 (H.out.map.of_heap ((J9.out.Q0 hW).block m H.out.map.lt λx=>x)) k;have HX:=zz (show ∀W,Kp No w2 W->W.rangeAt w.heap.size 0 [.int .i64 t1, .int .i64 t2] from λW hW=>by have:=Qg (hW.get HB2.out λx=>x) 0 2;exact this);have hch:=H.out.chain k;clear k2 c0 c1 hl1;go_upto_region 4 with fail
  cases hg:Qs cs k with
  |none=>
   rw [Vt,hg] at lk;rw [hg] at hch;have HC:=zz (show Uh (Qw st.keys k) t1 t2=none from by unfold Qw;rw [hch];rfl);simp only [Option.map_none,Option.getD_none] at lk;have hcg:=λW=>Qp5 W t1 t2 ht;have Q48:=zz hcg;clear hg hch hcg;refine zD No [0,0,0,0,0,0,0,2,0,0,0,0,0] [0,1,2,3,4,5,6,7,8,9,10,11,12] ?_;repeat (first|refine zA ?_|refine zB ?_|refine zC ?_)
   (try (apply Qb rfl rfl rfl;(focus (intro W hW;go_simp;rw [lk W hW];rfl));(focus (go_simp;rfl))))
   repeat (first|refine zA ?_|refine zB ?_|refine zC ?_)
   apply Qb rfl rfl rfl
   ·intro W hW;exact Qc 25 _ rfl w.heap.size 0 rfl [.int .i64 t1, .int .i64 t2] _ (HX.out W hW) Tryz.underlying25 rfl (by kernel_rfl)
   ·(focus (go_simp;rfl))
   refine Q8 rfl rfl (λq=>?_);go_wp2_with fail
   refine (Q48.out _).mono ?_;rintro e w3 ⟨rfl,k3⟩;have Qlj:Kp No w2 w3:=k3.Qf;go_wp2_with fail
   (try refine ⟨Qlj,?_⟩)
   repeat (first|refine zA ?_|refine zB ?_|refine zC ?_)
   refine Qa (λnq=>?_);have Zk:=zz ((J9.out.Q0 Qlj).drewN nq);clear k3 Qlj f7 lk;go_wp2_with fail
   rw [HC.out];exact bodyPost_ret (v:= .tuple #[.slice none 0 0, .bool false, .int .i64 0]) (by simp [results,Tryz.results26,go_sem]) rfl ⟨rfl,Zk.out⟩
  |some c=>
   rw [Vt,hg] at lk;rw [hg] at hch;have hmem:=Jc hg;have hcv:Qw st.keys k=c.vs:=by unfold Qw;rw [hch];rfl
   simp only [Option.map_some,Option.getD_some,Vk] at lk;have Q48:=zz (λW (hW:Kp No w2 W)=>Qdc W c t1 t2 ht ((H.out.Fx.each _ hmem).Q9 (J9.out.Q0 hW)) (HF.out _ hmem).1 (HF.out _ hmem).2);obtain ⟨cb,hcb⟩: ∃cb,cb=c.b:=⟨_,rfl⟩;rw [<-hcb] at lk Q48;obtain ⟨og,hog⟩: ∃og,og=Uh c.vs t1 t2:=⟨_,rfl⟩;rw [<-hog] at Q48;have Mn:=zz (show Uh (Qw st.keys k) t1 t2=og from by rw [hcv,hog]);clear hg hch hmem hcv hcb hog;refine zD No [0,0,0,0,0,0,0,2,0,0,0,0,0] [0,1,2,3,4,5,6,7,8,9,10,11,12] ?_;repeat (first|refine zA ?_|refine zB ?_|refine zC ?_)
   (try (apply Qb rfl rfl rfl;(focus (intro W hW;go_simp;rw [lk W hW];rfl));(focus (go_simp;rfl))))
   repeat (first|refine zA ?_|refine zB ?_|refine zC ?_)
   apply Qb rfl rfl rfl
   ·intro W hW;exact Qc 25 _ rfl w.heap.size 0 rfl [.int .i64 t1, .int .i64 t2] _ (HX.out W hW) Tryz.underlying25 rfl (by kernel_rfl)
   ·(focus (go_simp;rfl))
   refine Q8 rfl rfl (λq=>?_);go_wp2_with fail
   refine (Q48.out _ ((Kp.refl No w2).drewN _)).mono ?_;cases og with
   |none=>
    rintro e w3 ⟨rfl,k3⟩;have Qlj:Kp No w2 w3:=k3.Qf;go_wp2_with fail
    (try refine ⟨Qlj,?_⟩)
    repeat (first|refine zA ?_|refine zB ?_|refine zC ?_)
    refine Qa (λnq=>?_);have Zk:=zz ((J9.out.Q0 Qlj).drewN nq);clear k3 Qlj f7 lk;go_wp2_with fail
    rw [Mn.out];exact bodyPost_ret (v:= .tuple #[.slice none 0 0, .bool false, .int .i64 0]) (by simp [results,Tryz.results26,go_sem]) rfl ⟨rfl,Zk.out⟩
   |some l0=>
    rintro e w3 ⟨a3,c3,rfl,ho3,hf3,k3⟩;have Qlj:Kp No w2 w3:=k3.Qf;obtain ⟨n3,hn3⟩: ∃n3,n3=l0.length:=⟨_,rfl⟩;rw [<-hn3] at ho3 hf3⊢;have HO:=zz (And.intro ho3 (And.intro (λg hg=>Nat.le_trans J9.out.size (hf3 g hg)) hn3));clear ho3 hf3 hn3;go_wp2_with fail
    (try refine ⟨Qlj,?_⟩)
    repeat (first|refine zA ?_|refine zB ?_|refine zC ?_)
    refine Qa (λnq=>?_);have Zk:=zz ((J9.out.Q0 Qlj).drewN nq);clear k3 Qlj f7 lk;go_wp2_with fail
    rw [Mn.out];exact bodyPost_ret (v:= .tuple #[.slice a3 n3 c3, .bool true, .int .i64 0]) (by simp [results,Tryz.results26,go_sem]) rfl ⟨a3,c3,by rw [HO.out.2.2],by rw [<-HO.out.2.2];exact HO.out.1.drewN nq,by rw [<-HO.out.2.2];exact HO.out.2.1,Zk.out⟩
theorem Fq (m c n d:Int) (w:World):Calls Tryz.prog 27 #[Xl m c,Xl n d] w λe w'=>e= .returned (.int .i64 (Z6 m c n d))/\Kp No w w':=by
 rcases Int.lt_trichotomy m n with h|h|h
 ·have e:(m==n)=false:=by simp;omega
  have HV:Hid (Z6 m c n d= -1):=by show Z6 _ _ _ _=_;unfold Z6;rw [if_pos (.inl h)]
  go_enter Tryz.func27,Tryz.ntmps27
  go_wp2_with fail
  go_ret
  exact ⟨by rw [show Z6 _ _ _ _=_ from HV];rfl,(zK.alloc _).alloc _⟩
 ·subst h;rcases Int.lt_trichotomy c d with h|h|h
  ·skip
   have HV:Hid (Z6 m c m d= -1):=by show Z6 _ _ _ _=_;unfold Z6;rw [if_pos (.inr ⟨rfl,h⟩)]
   go_enter Tryz.func27,Tryz.ntmps27
   go_wp2_with fail
   go_ret
   exact ⟨by rw [show Z6 _ _ _ _=_ from HV];rfl,(zK.alloc _).alloc _⟩
  ·subst h;have HV:Hid (Z6 m c m c=0):=by show Z6 _ _ _ _=_;unfold Z6;rw [if_neg (by omega),if_pos ⟨rfl,rfl⟩]
   go_enter Tryz.func27,Tryz.ntmps27
   go_wp2_with fail
   go_ret
   exact ⟨by rw [show Z6 _ _ _ _=_ from HV];rfl,(zK.alloc _).alloc _⟩
  ·have e:(c==d)=false:=by simp;omega
   have HV:Hid (Z6 m c m d=1):=by show Z6 _ _ _ _=_;unfold Z6;rw [if_neg (by omega),if_neg (by omega)]
   go_enter Tryz.func27,Tryz.ntmps27
   go_wp2_with fail
   go_ret
   exact ⟨by rw [show Z6 _ _ _ _=_ from HV];rfl,(zK.alloc _).alloc _⟩
 ·have e:(m==n)=false:=by simp;omega
  have HV:Hid (Z6 m c n d=1):=by show Z6 _ _ _ _=_;unfold Z6;rw [if_neg (by omega),if_neg (by omega)]
  go_enter Tryz.func27,Tryz.ntmps27
  go_wp2_with fail
  go_ret
  exact ⟨by rw [show Z6 _ _ _ _=_ from HV];rfl,(zK.alloc _).alloc _⟩
theorem Qcw (m c o:Int) (v:Value) (g:Bool) (tt t1 t2:Int) (w:World):
  Calls Tryz.prog 81 #[Qha m c o v g tt,Xl t1 t2] w λe w'=>e= .returned (.bool (Bi m c g tt t1 t2))/\Kp No w w':=by
 obtain ⟨r,hr⟩: ∃r,r=Bi m c g tt t1 t2:=⟨_,rfl⟩;rw [<-hr];have hcc:=λW=>Fq m c t1 t2 W;obtain ⟨q,hq⟩: ∃q,q=Z6 m c t1 t2:=⟨_,rfl⟩;unfold Bi at hr;rw [<-hq] at hr hcc;have HC:=zz hcc;have HR:=zz hr;clear hr hcc hq;obtain ⟨W1,hW1⟩: ∃W1,W1=(w.alloc (.cells #[.int .i64 m, .int .i64 c, .int .i64 o,v, .bool g, .int .i64 tt] 44)).alloc (.cells #[.int .i64 t1, .int .i64 t2] 25):=⟨_,rfl⟩;have H1:Kp No w W1:=by rw [hW1];exact (zK.alloc _).alloc _
 have b1:W1.heap[w.heap.size]?=some (.cells #[.int .i64 m, .int .i64 c, .int .i64 o,v, .bool g, .int .i64 tt] 44 (0,0)):=by rw [hW1];exact Jm (heap_alloc_new w _) _
 have b2:W1.heap[w.heap.size+1]?=some (.cells #[.int .i64 t1, .int .i64 t2] 25 (0,0)):=by rw [hW1];exact (congrArg (λk=>((w.alloc _).alloc _).heap[k]?) (by simp)).trans (heap_alloc_new (w.alloc _) _)
 have HH:=zz H1;have HB1:=zz b1;have HB2:=zz b2;clear b1 b2 H1;go_enter Tryz.func81,Tryz.ntmps81
 go_wp2_with fail
 rw [<-hW1];clear hW1;refine (HC.out _).mono ?_;rintro e W2 ⟨rfl,hk2⟩;have J9:=zz (HH.out.Q0 hk2);have b1:=hk2.get HB1.out λx=>x;have b2:=hk2.get HB2.out λx=>x;have c0:W2.cell? ⟨w.heap.size,0,none⟩=some (.int .i64 m):=by rw [Q4 b1];rfl
 have c4:W2.cell? ⟨w.heap.size,4,none⟩=some (.bool g):=by rw [Q4 b1];rfl
 have c5:W2.cell? ⟨w.heap.size,5,none⟩=some (.int .i64 tt):=by rw [Q4 b1];rfl
 have e0:W2.cell? ⟨w.heap.size+1,0,none⟩=some (.int .i64 t1):=by rw [Q4 b2];rfl
 clear b1 b2 hk2;by_cases h1:q<=0
 ·have d1:decide (q<=0)=true:=decide_eq_true h1;have D1:=zz d1;have d3:decide (0<q)=false:=decide_eq_false (by omega);clear h1 d1;cases g with
  |true=>
   go_wp2_with fail
   go_ret
   exact ⟨by rw [HR.out,D1.out];rfl,J9.out⟩
  |false=>
   by_cases h2:tt=0
   ·subst h2;go_wp2_with fail
    go_ret
    exact ⟨by rw [HR.out,D1.out];rfl,J9.out⟩
   ·have d2:(tt==0)=false:=by simp [h2]
    have D2:=zz d2;clear h2;go_wp2_with fail
    go_ret
    exact ⟨by rw [HR.out,D1.out,D2.out];rfl,J9.out⟩
 ·have d1:decide (q<=0)=false:=decide_eq_false h1;have D1:=zz d1;have d3:decide (0<q)=true:=decide_eq_true (by omega);clear h1 d1;go_wp2_with fail
  go_ret
  exact ⟨by rw [HR.out,D1.out];rfl,J9.out⟩
theorem Qho (x:Qm) (hv:X8 x.v=true) (m c:Int) (hm:m<=9223372036854775807) (w:World):Calls Tryz.prog 81 #[Yk x,Xl m c] w λe w'=>e= .returned (.bool (N8 x.v m c))/\Kp No w w':=by
 rw [<-Qed x.v hv m c hm];exact Qcw x.v.m x.v.c x.v.o x.sl x.v.gone x.v.ttl m c w
theorem Q9s (m c o:Int) (v:Value) (g:Bool) (tt:Int) (m' c' o':Int) (v':Value) (g':Bool) (Qwv:Int) (w:World):
  Calls Tryz.prog 131 #[Qha m c o v g tt,Qha m' c' o' v' g' Qwv] w λe w'=>e= .returned (.int .i64 (Q5h m c o m' c' o'))/\Kp No w w':=by
 obtain ⟨r,hr⟩: ∃r,r=Q5h m c o m' c' o':=⟨_,rfl⟩;rw [<-hr];have hcc:=λW=>Fq m c m' c' W;obtain ⟨q,hq⟩: ∃q,q=Z6 m c m' c':=⟨_,rfl⟩;unfold Q5h at hr;rw [<-hq] at hr hcc;have HC:=zz hcc;have HR:=zz hr;clear hr hcc hq;obtain ⟨W1,hW1⟩: ∃W1,W1=(w.alloc (.cells #[.int .i64 m, .int .i64 c, .int .i64 o,v, .bool g, .int .i64 tt] 44)).alloc (.cells #[.int .i64 m', .int .i64 c', .int .i64 o',v', .bool g', .int .i64 Qwv] 44):=⟨_,rfl⟩;have H1:Kp No w W1:=by rw [hW1];exact (zK.alloc _).alloc _
 have b1:W1.heap[w.heap.size]?=some (.cells #[.int .i64 m, .int .i64 c, .int .i64 o,v, .bool g, .int .i64 tt] 44 (0,0)):=by rw [hW1];exact Jm (heap_alloc_new w _) _
 have b2:W1.heap[w.heap.size+1]?=some (.cells #[.int .i64 m', .int .i64 c', .int .i64 o',v', .bool g', .int .i64 Qwv] 44 (0,0)):=by rw [hW1];exact (congrArg (λk=>((w.alloc _).alloc _).heap[k]?) (by simp)).trans (heap_alloc_new (w.alloc _) _)
 have HH:=zz H1;have HB1:=zz b1;have HB2:=zz b2;clear b1 b2 H1;go_enter Tryz.func131,Tryz.ntmps131
 go_wp2_with fail
 rw [<-hW1];clear hW1;refine (HC.out _).mono ?_;rintro e W2 ⟨rfl,hk2⟩;have J9:=zz (HH.out.Q0 hk2);have b1:=hk2.get HB1.out λx=>x;have b2:=hk2.get HB2.out λx=>x;have c1:W2.cell? ⟨w.heap.size,2,none⟩=some (.int .i64 o):=by rw [Q4 b1];rfl
 have e1:W2.cell? ⟨w.heap.size+1,2,none⟩=some (.int .i64 o'):=by rw [Q4 b2];rfl
 clear b1 b2 hk2;by_cases h1:q=0
 ·have d1:(q==0)=true:=by rw [beq_iff_eq];exact h1
  have d2:(q !=0)=false:=by rw [bne,d1];rfl
  have HR2:=zz (show r=Ug o o' by rw [HR.out,if_neg (λh=>h h1)]);clear h1;rcases Int.lt_trichotomy o o' with h|h|h
  ·have d3:decide (o<o')=true:=decide_eq_true h;have HV:=zz (show r= -1 by rw [HR2.out];unfold Ug;rw [if_pos h]);clear h;go_wp2_with fail
   go_ret
   exact ⟨by rw [HV.out];rfl,J9.out⟩
  ·have d3:decide (o<o')=false:=decide_eq_false (by omega);have d4:decide (o'<o)=false:=decide_eq_false (by omega);have HV:=zz (show r=0 by rw [HR2.out];unfold Ug;rw [if_neg (by omega),if_neg (by omega)]);clear h;go_wp2_with fail
   go_ret
   exact ⟨by rw [HV.out];rfl,J9.out⟩
  ·have d3:decide (o<o')=false:=decide_eq_false (by omega);have d4:decide (o'<o)=true:=decide_eq_true h;have HV:=zz (show r=1 by rw [HR2.out];unfold Ug;rw [if_neg (by omega),if_pos h]);clear h;go_wp2_with fail
   go_ret
   exact ⟨by rw [HV.out];rfl,J9.out⟩
 ·have d1:(q==0)=false:=by rw [beq_eq_false_iff_ne];exact h1
  have d2:(q !=0)=true:=by rw [bne,d1];rfl
  have HR2:=zz (show r=q by rw [HR.out,if_pos h1]);go_wp2_with fail
  go_ret
  exact ⟨by rw [HR2.out];rfl,J9.out⟩
theorem Q27 (x y:Qm) (w:World):Calls Tryz.prog 131 #[Yk x,Yk y] w λe w'=>e= .returned (.int .i64 (N5 x.v y.v))/\Kp No w w':=
 Q9s x.v.m x.v.c x.v.o x.sl x.v.gone x.v.ttl y.v.m y.v.c y.v.o y.sl y.v.gone y.v.ttl w
theorem Qrv (v:Qo) (a:Option Addr) (cap:Nat) (w:World) (HB:Hid (Za v.m v.c=false)) (HR:Hid (X8 v=false)):
  Calls Tryz.prog 54 #[.agg #[.int .i64 v.m, .int .i64 v.c, .int .i64 v.o, .slice a v.val.length cap, .bool v.gone, .int .i64 v.ttl]] w λe w'=>e= .returned (.bool (X8 v))/\Kp No w w':=by
 obtain ⟨z,hz⟩: ∃z,z=X8 v:=⟨_,rfl⟩;rw [<-hz] at HR⊢;clear hz;have Xh:=λw=>Uz v.m v.c w;simp only [HB.out] at Xh;have HQ:=zz Xh;clear Xh;go_enter Tryz.func54,Tryz.ntmps54
 go_wp2_with fail
 refine (HQ.out _).mono ?_;rintro e w' ⟨rfl,hk⟩;have hk':Kp No w w':=(zK.alloc _).Q0 hk;have hc:=hk.get (heap_alloc_new w _) λx=>x;have c2:=Q4 hc 2;have c3:=Q4 hc 3;have c4:=Q4 hc 4;have c5:=Q4 hc 5;have hlt:=Q7 hc;simp at c2 c3 c4 c5
 clear hc hk;have hun: ∀b:Bool,(undef=Value.bool b)=False:=λb=>by unfold undef;simp
 go_wp2_with fail
 all_goals
  go_ret
  exact ⟨by rw [HR.out];rfl,hk'⟩
theorem Qrn (v:Qo) (a:Option Addr) (cap:Nat) (w:World) (HB:Hid (Za v.m v.c=true)) (d1:decide (v.o<0)=true) (HR:Hid (X8 v=false)):
  Calls Tryz.prog 54 #[.agg #[.int .i64 v.m, .int .i64 v.c, .int .i64 v.o, .slice a v.val.length cap, .bool v.gone, .int .i64 v.ttl]] w λe w'=>e= .returned (.bool (X8 v))/\Kp No w w':=by
 obtain ⟨z,hz⟩: ∃z,z=X8 v:=⟨_,rfl⟩;rw [<-hz] at HR⊢;clear hz;have Xh:=λw=>Uz v.m v.c w;simp only [HB.out] at Xh;have HQ:=zz Xh;clear Xh;go_enter Tryz.func54,Tryz.ntmps54
 go_wp2_with fail
 refine (HQ.out _).mono ?_;rintro e w' ⟨rfl,hk⟩;have hk':Kp No w w':=(zK.alloc _).Q0 hk;have hc:=hk.get (heap_alloc_new w _) λx=>x;have c2:=Q4 hc 2;have c3:=Q4 hc 3;have c4:=Q4 hc 4;have c5:=Q4 hc 5;have hlt:=Q7 hc;simp at c2 c3 c4 c5
 clear hc hk;have hun: ∀b:Bool,(undef=Value.bool b)=False:=λb=>by unfold undef;simp
 go_wp2_with fail
 all_goals
  go_ret
  exact ⟨by rw [HR.out];rfl,hk'⟩
theorem Qro (v:Qo) (a:Option Addr) (cap:Nat) (w:World) (HB:Hid (Za v.m v.c=true)) (d1:decide (v.o<0)=false) (d2:decide (5<=v.o)=true) (HR:Hid (X8 v=false)):
  Calls Tryz.prog 54 #[.agg #[.int .i64 v.m, .int .i64 v.c, .int .i64 v.o, .slice a v.val.length cap, .bool v.gone, .int .i64 v.ttl]] w λe w'=>e= .returned (.bool (X8 v))/\Kp No w w':=by
 obtain ⟨z,hz⟩: ∃z,z=X8 v:=⟨_,rfl⟩;rw [<-hz] at HR⊢;clear hz;have Xh:=λw=>Uz v.m v.c w;simp only [HB.out] at Xh;have HQ:=zz Xh;clear Xh;go_enter Tryz.func54,Tryz.ntmps54
 go_wp2_with fail
 refine (HQ.out _).mono ?_;rintro e w' ⟨rfl,hk⟩;have hk':Kp No w w':=(zK.alloc _).Q0 hk;have hc:=hk.get (heap_alloc_new w _) λx=>x;have c2:=Q4 hc 2;have c3:=Q4 hc 3;have c4:=Q4 hc 4;have c5:=Q4 hc 5;have hlt:=Q7 hc;simp at c2 c3 c4 c5
 clear hc hk;have hun: ∀b:Bool,(undef=Value.bool b)=False:=λb=>by unfold undef;simp
 go_wp2_with fail
 all_goals
  go_ret
  exact ⟨by rw [HR.out];rfl,hk'⟩
theorem Qrp (v:Qo) (a:Option Addr) (cap:Nat) (w:World) (HB:Hid (Za v.m v.c=true)) (d1:decide (v.o<0)=false) (d2:decide (5<=v.o)=false) (d3:decide ((1024:Int)<(v.val.length:Int))=true) (_:decide (1024<v.val.length)=true) (HR:Hid (X8 v=false)):
  Calls Tryz.prog 54 #[.agg #[.int .i64 v.m, .int .i64 v.c, .int .i64 v.o, .slice a v.val.length cap, .bool v.gone, .int .i64 v.ttl]] w λe w'=>e= .returned (.bool (X8 v))/\Kp No w w':=by
 obtain ⟨z,hz⟩: ∃z,z=X8 v:=⟨_,rfl⟩;rw [<-hz] at HR⊢;clear hz;have Xh:=λw=>Uz v.m v.c w;simp only [HB.out] at Xh;have HQ:=zz Xh;clear Xh;go_enter Tryz.func54,Tryz.ntmps54
 go_wp2_with fail
 refine (HQ.out _).mono ?_;rintro e w' ⟨rfl,hk⟩;have hk':Kp No w w':=(zK.alloc _).Q0 hk;have hc:=hk.get (heap_alloc_new w _) λx=>x;have c2:=Q4 hc 2;have c3:=Q4 hc 3;have c4:=Q4 hc 4;have c5:=Q4 hc 5;have hlt:=Q7 hc;simp at c2 c3 c4 c5
 clear hc hk;have hun: ∀b:Bool,(undef=Value.bool b)=False:=λb=>by unfold undef;simp
 go_wp2_with fail
 all_goals
  go_ret
  exact ⟨by rw [HR.out];rfl,hk'⟩
theorem Qrq (v:Qo) (a:Option Addr) (cap:Nat) (w:World) (HB:Hid (Za v.m v.c=true)) (d1:decide (v.o<0)=false) (d2:decide (5<=v.o)=false) (d3:decide ((1024:Int)<(v.val.length:Int))=false) (_:decide (1024<v.val.length)=false) (d4:decide (v.ttl<0)=true) (HR:Hid (X8 v=false)):
  Calls Tryz.prog 54 #[.agg #[.int .i64 v.m, .int .i64 v.c, .int .i64 v.o, .slice a v.val.length cap, .bool v.gone, .int .i64 v.ttl]] w λe w'=>e= .returned (.bool (X8 v))/\Kp No w w':=by
 obtain ⟨z,hz⟩: ∃z,z=X8 v:=⟨_,rfl⟩;rw [<-hz] at HR⊢;clear hz;have Xh:=λw=>Uz v.m v.c w;simp only [HB.out] at Xh;have HQ:=zz Xh;clear Xh;go_enter Tryz.func54,Tryz.ntmps54
 go_wp2_with fail
 refine (HQ.out _).mono ?_;rintro e w' ⟨rfl,hk⟩;have hk':Kp No w w':=(zK.alloc _).Q0 hk;have hc:=hk.get (heap_alloc_new w _) λx=>x;have c2:=Q4 hc 2;have c3:=Q4 hc 3;have c4:=Q4 hc 4;have c5:=Q4 hc 5;have hlt:=Q7 hc;simp at c2 c3 c4 c5
 clear hc hk;have hun: ∀b:Bool,(undef=Value.bool b)=False:=λb=>by unfold undef;simp
 go_wp2_with fail
 all_goals
  go_ret
  exact ⟨by rw [HR.out];rfl,hk'⟩
theorem Qrr (v:Qo) (a:Option Addr) (cap:Nat) (w:World) (HB:Hid (Za v.m v.c=true)) (d1:decide (v.o<0)=false) (d2:decide (5<=v.o)=false) (d3:decide ((1024:Int)<(v.val.length:Int))=false) (_:decide (1024<v.val.length)=false) (d4:decide (v.ttl<0)=false) (d5:decide (281474976710655<v.ttl)=true) (HR:Hid (X8 v=false)):
  Calls Tryz.prog 54 #[.agg #[.int .i64 v.m, .int .i64 v.c, .int .i64 v.o, .slice a v.val.length cap, .bool v.gone, .int .i64 v.ttl]] w λe w'=>e= .returned (.bool (X8 v))/\Kp No w w':=by
 obtain ⟨z,hz⟩: ∃z,z=X8 v:=⟨_,rfl⟩;rw [<-hz] at HR⊢;clear hz;have Xh:=λw=>Uz v.m v.c w;simp only [HB.out] at Xh;have HQ:=zz Xh;clear Xh;go_enter Tryz.func54,Tryz.ntmps54
 go_wp2_with fail
 refine (HQ.out _).mono ?_;rintro e w' ⟨rfl,hk⟩;have hk':Kp No w w':=(zK.alloc _).Q0 hk;have hc:=hk.get (heap_alloc_new w _) λx=>x;have c2:=Q4 hc 2;have c3:=Q4 hc 3;have c4:=Q4 hc 4;have c5:=Q4 hc 5;have hlt:=Q7 hc;simp at c2 c3 c4 c5
 clear hc hk;have hun: ∀b:Bool,(undef=Value.bool b)=False:=λb=>by unfold undef;simp
 go_wp2_with fail
 all_goals
  go_ret
  exact ⟨by rw [HR.out];rfl,hk'⟩
theorem Qrs (v:Qo) (a:Option Addr) (cap:Nat) (w:World) (HB:Hid (Za v.m v.c=true)) (d1:decide (v.o<0)=false) (d2:decide (5<=v.o)=false) (d3:decide ((1024:Int)<(v.val.length:Int))=false) (_:decide (1024<v.val.length)=false) (d4:decide (v.ttl<0)=false) (d5:decide (281474976710655<v.ttl)=false) (db:v.gone=false) (HR:Hid (X8 v=true)):
  Calls Tryz.prog 54 #[.agg #[.int .i64 v.m, .int .i64 v.c, .int .i64 v.o, .slice a v.val.length cap, .bool v.gone, .int .i64 v.ttl]] w λe w'=>e= .returned (.bool (X8 v))/\Kp No w w':=by
 obtain ⟨z,hz⟩: ∃z,z=X8 v:=⟨_,rfl⟩;rw [<-hz] at HR⊢;clear hz;have Xh:=λw=>Uz v.m v.c w;simp only [HB.out] at Xh;have HQ:=zz Xh;clear Xh;go_enter Tryz.func54,Tryz.ntmps54
 go_wp2_with fail
 refine (HQ.out _).mono ?_;rintro e w' ⟨rfl,hk⟩;have hk':Kp No w w':=(zK.alloc _).Q0 hk;have hc:=hk.get (heap_alloc_new w _) λx=>x;have c2:=Q4 hc 2;have c3:=Q4 hc 3;have c4:=Q4 hc 4;have c5:=Q4 hc 5;have hlt:=Q7 hc;simp at c2 c3 c4 c5
 clear hc hk;have hun: ∀b:Bool,(undef=Value.bool b)=False:=λb=>by unfold undef;simp
 go_wp2_with fail
 all_goals
  go_ret
  exact ⟨by rw [HR.out];rfl,hk'⟩
theorem Qrt (v:Qo) (a:Option Addr) (cap:Nat) (w:World) (HB:Hid (Za v.m v.c=true)) (d1:decide (v.o<0)=false) (d2:decide (5<=v.o)=false) (d3:decide ((1024:Int)<(v.val.length:Int))=false) (_:decide (1024<v.val.length)=false) (d4:decide (v.ttl<0)=false) (d5:decide (281474976710655<v.ttl)=false) (db:v.gone=true) (dc:((v.val.length:Int)==0)=false) (_:(v.val.length==0)=false) (HR:Hid (X8 v=false)):
  Calls Tryz.prog 54 #[.agg #[.int .i64 v.m, .int .i64 v.c, .int .i64 v.o, .slice a v.val.length cap, .bool v.gone, .int .i64 v.ttl]] w λe w'=>e= .returned (.bool (X8 v))/\Kp No w w':=by
 obtain ⟨z,hz⟩: ∃z,z=X8 v:=⟨_,rfl⟩;rw [<-hz] at HR⊢;clear hz;have Xh:=λw=>Uz v.m v.c w;simp only [HB.out] at Xh;have HQ:=zz Xh;clear Xh;go_enter Tryz.func54,Tryz.ntmps54
 go_wp2_with fail
 refine (HQ.out _).mono ?_;rintro e w' ⟨rfl,hk⟩;have hk':Kp No w w':=(zK.alloc _).Q0 hk;have hc:=hk.get (heap_alloc_new w _) λx=>x;have c2:=Q4 hc 2;have c3:=Q4 hc 3;have c4:=Q4 hc 4;have c5:=Q4 hc 5;have hlt:=Q7 hc;simp at c2 c3 c4 c5
 clear hc hk;have hun: ∀b:Bool,(undef=Value.bool b)=False:=λb=>by unfold undef;simp
 go_wp2_with fail
 all_goals
  go_ret
  exact ⟨by rw [HR.out];rfl,hk'⟩
theorem Qru (v:Qo) (a:Option Addr) (cap:Nat) (w:World) (HB:Hid (Za v.m v.c=true)) (d1:decide (v.o<0)=false) (d2:decide (5<=v.o)=false) (d3:decide ((1024:Int)<(v.val.length:Int))=false) (_:decide (1024<v.val.length)=false) (d4:decide (v.ttl<0)=false) (d5:decide (281474976710655<v.ttl)=false) (db:v.gone=true) (dc:((v.val.length:Int)==0)=true) (_:(v.val.length==0)=true) (dd:(v.ttl==0)=false) (HR:Hid (X8 v=false)):
  Calls Tryz.prog 54 #[.agg #[.int .i64 v.m, .int .i64 v.c, .int .i64 v.o, .slice a v.val.length cap, .bool v.gone, .int .i64 v.ttl]] w λe w'=>e= .returned (.bool (X8 v))/\Kp No w w':=by
 obtain ⟨z,hz⟩: ∃z,z=X8 v:=⟨_,rfl⟩;rw [<-hz] at HR⊢;clear hz;have Xh:=λw=>Uz v.m v.c w;simp only [HB.out] at Xh;have HQ:=zz Xh;clear Xh;go_enter Tryz.func54,Tryz.ntmps54
 go_wp2_with fail
 refine (HQ.out _).mono ?_;rintro e w' ⟨rfl,hk⟩;have hk':Kp No w w':=(zK.alloc _).Q0 hk;have hc:=hk.get (heap_alloc_new w _) λx=>x;have c2:=Q4 hc 2;have c3:=Q4 hc 3;have c4:=Q4 hc 4;have c5:=Q4 hc 5;have hlt:=Q7 hc;simp at c2 c3 c4 c5
 clear hc hk;have hun: ∀b:Bool,(undef=Value.bool b)=False:=λb=>by unfold undef;simp
 go_wp2_with fail
 all_goals
  go_ret
  exact ⟨by rw [HR.out];rfl,hk'⟩
theorem Qnt (v:Qo) (a:Option Addr) (cap:Nat) (w:World) (HB:Hid (Za v.m v.c=true)) (d1:decide (v.o<0)=false) (d2:decide (5<=v.o)=false) (d3:decide ((1024:Int)<(v.val.length:Int))=false) (_:decide (1024<v.val.length)=false) (d4:decide (v.ttl<0)=false) (d5:decide (281474976710655<v.ttl)=false) (db:v.gone=true) (dc:((v.val.length:Int)==0)=true) (_:(v.val.length==0)=true) (dd:(v.ttl==0)=true) (HR:Hid (X8 v=true)):
  Calls Tryz.prog 54 #[.agg #[.int .i64 v.m, .int .i64 v.c, .int .i64 v.o, .slice a v.val.length cap, .bool v.gone, .int .i64 v.ttl]] w λe w'=>e= .returned (.bool (X8 v))/\Kp No w w':=by
 obtain ⟨z,hz⟩: ∃z,z=X8 v:=⟨_,rfl⟩;rw [<-hz] at HR⊢;clear hz;have Xh:=λw=>Uz v.m v.c w;simp only [HB.out] at Xh;have HQ:=zz Xh;clear Xh;go_enter Tryz.func54,Tryz.ntmps54
 go_wp2_with fail
 refine (HQ.out _).mono ?_;rintro e w' ⟨rfl,hk⟩;have hk':Kp No w w':=(zK.alloc _).Q0 hk;have hc:=hk.get (heap_alloc_new w _) λx=>x;have c2:=Q4 hc 2;have c3:=Q4 hc 3;have c4:=Q4 hc 4;have c5:=Q4 hc 5;have hlt:=Q7 hc;simp at c2 c3 c4 c5
 clear hc hk;have hun: ∀b:Bool,(undef=Value.bool b)=False:=λb=>by unfold undef;simp
 go_wp2_with fail
 all_goals
  go_ret
  exact ⟨by rw [HR.out];rfl,hk'⟩
structure Jax (v:Qo):Prop where
 st:Za v.m v.c=true
 o0: ¬v.o<0
 o5: ¬5<=v.o
 vl: ¬(1024:Int)<(v.val.length:Int)
 t0: ¬v.ttl<0
 t1: ¬281474976710655<v.ttl
 gg:v.gone=true->(v.val.length:Int)=0/\v.ttl=0
theorem Qlg {v:Qo}:X8 v=true↔Jax v:=by
 rw [Zi,<-Zw];constructor
 ·rintro ⟨st,o0,o5,vl,t0,t1,gg⟩;exact ⟨st,by omega,by omega,by omega,by omega,by omega,λh=>⟨by have:=gg h;omega,(gg h).2⟩⟩
 ·rintro ⟨st,o0,o5,vl,t0,t1,gg⟩;exact ⟨st,by omega,by omega,by omega,by omega,by omega,λh=>⟨by have:=gg h;omega,(gg h).2⟩⟩
theorem N3 {v:Qo} (h: ¬Jax v):X8 v=false:=by
 cases hh:X8 v with
 |false=>rfl
 |true=>exact absurd (Qlg.1 hh) h
theorem Fv (x:Qm) (w:World):Calls Tryz.prog 54 #[Yk x] w λe w'=>e= .returned (.bool (X8 x.v))/\Kp No w w':=by
 obtain ⟨v,a,cap⟩:=x;unfold Yk Qv Qm.sl;simp only
 cases b1:Za v.m v.c with
 |false=>exact Qrv v a cap w (zz b1) (zz (N3 λh=>absurd h.st (by rw [b1];decide)))
 |true=>
 cases d1:decide (v.o<0) with
 |true=>exact Qrn v a cap w (zz b1) d1 (zz (N3 λh=>h.o0 (of_decide_eq_true d1)))
 |false=>
 cases d2:decide (5<=v.o) with
 |true=>exact Qro v a cap w (zz b1) d1 d2 (zz (N3 λh=>h.o5 (of_decide_eq_true d2)))
 |false=>
 cases d3:decide ((1024:Int)<(v.val.length:Int)) with
 |true=>exact Qrp v a cap w (zz b1) d1 d2 d3 (J3 (by omega) d3) (zz (N3 λh=>h.vl (of_decide_eq_true d3)))
 |false=>
 cases d4:decide (v.ttl<0) with
 |true=>exact Qrq v a cap w (zz b1) d1 d2 d3 (J3 (by omega) d3) d4 (zz (N3 λh=>h.t0 (of_decide_eq_true d4)))
 |false=>
 cases d5:decide (281474976710655<v.ttl) with
 |true=>exact Qrr v a cap w (zz b1) d1 d2 d3 (J3 (by omega) d3) d4 d5 (zz (N3 λh=>h.t1 (of_decide_eq_true d5)))
 |false=>
 rcases Bool.eq_false_or_eq_true v.gone with db|db
 rotate_left
 ·exact Qrs v a cap w (zz b1) d1 d2 d3 (J3 (by omega) d3) d4 d5 db (zz (Qlg.2 ⟨b1,of_decide_eq_false d1,of_decide_eq_false d2,of_decide_eq_false d3,of_decide_eq_false d4,of_decide_eq_false d5,λh=>absurd h (by rw [db];decide)⟩))
 cases dc:((v.val.length:Int)==0) with
 |false=>exact Qrt v a cap w (zz b1) d1 d2 d3 (J3 (by omega) d3) d4 d5 db dc (K8 dc) (zz (N3 λh=>ne_of_beq_false dc (h.gg db).1))
 |true=>
 cases dd:(v.ttl==0) with
 |false=>exact Qru v a cap w (zz b1) d1 d2 d3 (J3 (by omega) d3) d4 d5 db dc (K8 dc) dd (zz (N3 λh=>ne_of_beq_false dd (h.gg db).2))
 |true=>
 exact Qnt v a cap w (zz b1) d1 d2 d3 (J3 (by omega) d3) d4 d5 db dc (K8 dc) dd (zz (Qlg.2 ⟨b1,of_decide_eq_false d1,of_decide_eq_false d2,of_decide_eq_false d3,of_decide_eq_false d4,of_decide_eq_false d5,λ_=>⟨eq_of_beq dc,eq_of_beq dd⟩⟩))
theorem Qx2 (r:Qu) (a:Option Addr) (cap:Nat) (w:World) (HB:Hid (X8 r.v=false)) (HR:Hid (Z4 r=false)):
  Calls Tryz.prog 17 #[.agg #[.int .i64 r.o, .int .i64 r.seq, .string r.key, .int .i64 r.v.m, .int .i64 r.v.c, .int .i64 r.v.o, .slice a r.v.val.length cap, .bool r.v.gone, .int .i64 r.v.ttl]] w λe w'=>e= .returned (.bool (Z4 r))/\Kp No w w':=by
 obtain ⟨z,hz⟩: ∃z,z=Z4 r:=⟨_,rfl⟩;rw [<-hz] at HR⊢;clear hz;have Xh:=λw=>Fv ⟨r.v,a,cap⟩ w;unfold Yk Qv Qm.sl at Xh;simp only [HB.out] at Xh;have HQ:=zz Xh;clear Xh;go_enter Tryz.func17,Tryz.ntmps17
 go_wp2_with fail
 refine (HQ.out _).mono ?_;rintro e w' ⟨rfl,hk⟩;have hk':Kp No w w':=(zK.alloc _).Q0 hk;have hc:=hk.get (heap_alloc_new w _) λx=>x;have c0:=Q4 hc 0;have c1:=Q4 hc 1;have c2:=Q4 hc 2;have c5:=Q4 hc 5;have hlt:=Q7 hc;simp at c0 c1 c2 c5
 clear hc hk;have hun: ∀b:Bool,(undef=Value.bool b)=False:=λb=>by unfold undef;simp
 go_wp2_with fail
 all_goals
  go_ret
  exact ⟨by rw [HR.out];rfl,hk'⟩
theorem Qwx (r:Qu) (a:Option Addr) (cap:Nat) (w:World) (HB:Hid (X8 r.v=true)) (d1:(r.v.o==r.o)=false) (HR:Hid (Z4 r=false)):
  Calls Tryz.prog 17 #[.agg #[.int .i64 r.o, .int .i64 r.seq, .string r.key, .int .i64 r.v.m, .int .i64 r.v.c, .int .i64 r.v.o, .slice a r.v.val.length cap, .bool r.v.gone, .int .i64 r.v.ttl]] w λe w'=>e= .returned (.bool (Z4 r))/\Kp No w w':=by
 obtain ⟨z,hz⟩: ∃z,z=Z4 r:=⟨_,rfl⟩;rw [<-hz] at HR⊢;clear hz;have Xh:=λw=>Fv ⟨r.v,a,cap⟩ w;unfold Yk Qv Qm.sl at Xh;simp only [HB.out] at Xh;have HQ:=zz Xh;clear Xh;go_enter Tryz.func17,Tryz.ntmps17
 go_wp2_with fail
 refine (HQ.out _).mono ?_;rintro e w' ⟨rfl,hk⟩;have hk':Kp No w w':=(zK.alloc _).Q0 hk;have hc:=hk.get (heap_alloc_new w _) λx=>x;have c0:=Q4 hc 0;have c1:=Q4 hc 1;have c2:=Q4 hc 2;have c5:=Q4 hc 5;have hlt:=Q7 hc;simp at c0 c1 c2 c5
 clear hc hk;have hun: ∀b:Bool,(undef=Value.bool b)=False:=λb=>by unfold undef;simp
 go_wp2_with fail
 all_goals
  go_ret
  exact ⟨by rw [HR.out];rfl,hk'⟩
theorem Qwy (r:Qu) (a:Option Addr) (cap:Nat) (w:World) (HB:Hid (X8 r.v=true)) (d1:(r.v.o==r.o)=true) (d2:decide (1<=r.seq)=false) (HR:Hid (Z4 r=false)):
  Calls Tryz.prog 17 #[.agg #[.int .i64 r.o, .int .i64 r.seq, .string r.key, .int .i64 r.v.m, .int .i64 r.v.c, .int .i64 r.v.o, .slice a r.v.val.length cap, .bool r.v.gone, .int .i64 r.v.ttl]] w λe w'=>e= .returned (.bool (Z4 r))/\Kp No w w':=by
 obtain ⟨z,hz⟩: ∃z,z=Z4 r:=⟨_,rfl⟩;rw [<-hz] at HR⊢;clear hz;have Xh:=λw=>Fv ⟨r.v,a,cap⟩ w;unfold Yk Qv Qm.sl at Xh;simp only [HB.out] at Xh;have HQ:=zz Xh;clear Xh;go_enter Tryz.func17,Tryz.ntmps17
 go_wp2_with fail
 refine (HQ.out _).mono ?_;rintro e w' ⟨rfl,hk⟩;have hk':Kp No w w':=(zK.alloc _).Q0 hk;have hc:=hk.get (heap_alloc_new w _) λx=>x;have c0:=Q4 hc 0;have c1:=Q4 hc 1;have c2:=Q4 hc 2;have c5:=Q4 hc 5;have hlt:=Q7 hc;simp at c0 c1 c2 c5
 clear hc hk;have hun: ∀b:Bool,(undef=Value.bool b)=False:=λb=>by unfold undef;simp
 go_wp2_with fail
 all_goals
  go_ret
  exact ⟨by rw [HR.out];rfl,hk'⟩
theorem Qwz (r:Qu) (a:Option Addr) (cap:Nat) (w:World) (HB:Hid (X8 r.v=true)) (d1:(r.v.o==r.o)=true) (d2:decide (1<=r.seq)=true) (d3:decide (r.seq<=1099511627776)=false) (HR:Hid (Z4 r=false)):
  Calls Tryz.prog 17 #[.agg #[.int .i64 r.o, .int .i64 r.seq, .string r.key, .int .i64 r.v.m, .int .i64 r.v.c, .int .i64 r.v.o, .slice a r.v.val.length cap, .bool r.v.gone, .int .i64 r.v.ttl]] w λe w'=>e= .returned (.bool (Z4 r))/\Kp No w w':=by
 obtain ⟨z,hz⟩: ∃z,z=Z4 r:=⟨_,rfl⟩;rw [<-hz] at HR⊢;clear hz;have Xh:=λw=>Fv ⟨r.v,a,cap⟩ w;unfold Yk Qv Qm.sl at Xh;simp only [HB.out] at Xh;have HQ:=zz Xh;clear Xh;go_enter Tryz.func17,Tryz.ntmps17
 go_wp2_with fail
 refine (HQ.out _).mono ?_;rintro e w' ⟨rfl,hk⟩;have hk':Kp No w w':=(zK.alloc _).Q0 hk;have hc:=hk.get (heap_alloc_new w _) λx=>x;have c0:=Q4 hc 0;have c1:=Q4 hc 1;have c2:=Q4 hc 2;have c5:=Q4 hc 5;have hlt:=Q7 hc;simp at c0 c1 c2 c5
 clear hc hk;have hun: ∀b:Bool,(undef=Value.bool b)=False:=λb=>by unfold undef;simp
 go_wp2_with fail
 all_goals
  go_ret
  exact ⟨by rw [HR.out];rfl,hk'⟩
theorem Qx0 (r:Qu) (a:Option Addr) (cap:Nat) (w:World) (HB:Hid (X8 r.v=true)) (d1:(r.v.o==r.o)=true) (d2:decide (1<=r.seq)=true) (d3:decide (r.seq<=1099511627776)=true) (d4:decide (1<=(r.key.size:Int))=false) (_:decide (1<=r.key.size)=false) (HR:Hid (Z4 r=false)):
  Calls Tryz.prog 17 #[.agg #[.int .i64 r.o, .int .i64 r.seq, .string r.key, .int .i64 r.v.m, .int .i64 r.v.c, .int .i64 r.v.o, .slice a r.v.val.length cap, .bool r.v.gone, .int .i64 r.v.ttl]] w λe w'=>e= .returned (.bool (Z4 r))/\Kp No w w':=by
 obtain ⟨z,hz⟩: ∃z,z=Z4 r:=⟨_,rfl⟩;rw [<-hz] at HR⊢;clear hz;have Xh:=λw=>Fv ⟨r.v,a,cap⟩ w;unfold Yk Qv Qm.sl at Xh;simp only [HB.out] at Xh;have HQ:=zz Xh;clear Xh;go_enter Tryz.func17,Tryz.ntmps17
 go_wp2_with fail
 refine (HQ.out _).mono ?_;rintro e w' ⟨rfl,hk⟩;have hk':Kp No w w':=(zK.alloc _).Q0 hk;have hc:=hk.get (heap_alloc_new w _) λx=>x;have c0:=Q4 hc 0;have c1:=Q4 hc 1;have c2:=Q4 hc 2;have c5:=Q4 hc 5;have hlt:=Q7 hc;simp at c0 c1 c2 c5
 clear hc hk;have hun: ∀b:Bool,(undef=Value.bool b)=False:=λb=>by unfold undef;simp
 go_wp2_with fail
 all_goals
  go_ret
  exact ⟨by rw [HR.out];rfl,hk'⟩
theorem Qx1 (r:Qu) (a:Option Addr) (cap:Nat) (w:World) (HB:Hid (X8 r.v=true)) (d1:(r.v.o==r.o)=true) (d2:decide (1<=r.seq)=true) (d3:decide (r.seq<=1099511627776)=true) (d4:decide (1<=(r.key.size:Int))=true) (_:decide (1<=r.key.size)=true) (d5:decide ((r.key.size:Int)<=64)=false) (_:decide (r.key.size<=64)=false) (HR:Hid (Z4 r=false)):
  Calls Tryz.prog 17 #[.agg #[.int .i64 r.o, .int .i64 r.seq, .string r.key, .int .i64 r.v.m, .int .i64 r.v.c, .int .i64 r.v.o, .slice a r.v.val.length cap, .bool r.v.gone, .int .i64 r.v.ttl]] w λe w'=>e= .returned (.bool (Z4 r))/\Kp No w w':=by
 obtain ⟨z,hz⟩: ∃z,z=Z4 r:=⟨_,rfl⟩;rw [<-hz] at HR⊢;clear hz;have Xh:=λw=>Fv ⟨r.v,a,cap⟩ w;unfold Yk Qv Qm.sl at Xh;simp only [HB.out] at Xh;have HQ:=zz Xh;clear Xh;go_enter Tryz.func17,Tryz.ntmps17
 go_wp2_with fail
 refine (HQ.out _).mono ?_;rintro e w' ⟨rfl,hk⟩;have hk':Kp No w w':=(zK.alloc _).Q0 hk;have hc:=hk.get (heap_alloc_new w _) λx=>x;have c0:=Q4 hc 0;have c1:=Q4 hc 1;have c2:=Q4 hc 2;have c5:=Q4 hc 5;have hlt:=Q7 hc;simp at c0 c1 c2 c5
 clear hc hk;have hun: ∀b:Bool,(undef=Value.bool b)=False:=λb=>by unfold undef;simp
 go_wp2_with fail
 all_goals
  go_ret
  exact ⟨by rw [HR.out];rfl,hk'⟩
theorem Qrm (r:Qu) (a:Option Addr) (cap:Nat) (w:World) (HB:Hid (X8 r.v=true)) (d1:(r.v.o==r.o)=true) (d2:decide (1<=r.seq)=true) (d3:decide (r.seq<=1099511627776)=true) (d4:decide (1<=(r.key.size:Int))=true) (_:decide (1<=r.key.size)=true) (d5:decide ((r.key.size:Int)<=64)=true) (_:decide (r.key.size<=64)=true) (HR:Hid (Z4 r=true)):
  Calls Tryz.prog 17 #[.agg #[.int .i64 r.o, .int .i64 r.seq, .string r.key, .int .i64 r.v.m, .int .i64 r.v.c, .int .i64 r.v.o, .slice a r.v.val.length cap, .bool r.v.gone, .int .i64 r.v.ttl]] w λe w'=>e= .returned (.bool (Z4 r))/\Kp No w w':=by
 obtain ⟨z,hz⟩: ∃z,z=Z4 r:=⟨_,rfl⟩;rw [<-hz] at HR⊢;clear hz;have Xh:=λw=>Fv ⟨r.v,a,cap⟩ w;unfold Yk Qv Qm.sl at Xh;simp only [HB.out] at Xh;have HQ:=zz Xh;clear Xh;go_enter Tryz.func17,Tryz.ntmps17
 go_wp2_with fail
 refine (HQ.out _).mono ?_;rintro e w' ⟨rfl,hk⟩;have hk':Kp No w w':=(zK.alloc _).Q0 hk;have hc:=hk.get (heap_alloc_new w _) λx=>x;have c0:=Q4 hc 0;have c1:=Q4 hc 1;have c2:=Q4 hc 2;have c5:=Q4 hc 5;have hlt:=Q7 hc;simp at c0 c1 c2 c5
 clear hc hk;have hun: ∀b:Bool,(undef=Value.bool b)=False:=λb=>by unfold undef;simp
 go_wp2_with fail
 all_goals
  go_ret
  exact ⟨by rw [HR.out];rfl,hk'⟩
theorem Ns {r:Qu} (h: ¬(X8 r.v=true/\r.v.o=r.o/\1<=r.seq/\r.seq<=1099511627776/\1<=(r.key.size:Int)/\(r.key.size:Int)<=64)):Z4 r=false:=by
 cases hh:Z4 r with
 |false=>rfl
 |true=>
  obtain ⟨h1,h2,h3,h4,h5,h6⟩:=Y9.1 hh;exact absurd ⟨h1,h2,h3,h4,by omega,by omega⟩ h
theorem Qer (x:Qe) (w:World):Calls Tryz.prog 17 #[Cm x] w λe w'=>e= .returned (.bool (Z4 x.r))/\Kp No w w':=by
 obtain ⟨r,a,cap⟩:=x;unfold Cm recC Qe.sl;simp only
 cases b1:X8 r.v with
 |false=>exact Qx2 r a cap w (zz b1) (zz (Ns λh=>absurd h.1 (by rw [b1];decide)))
 |true=>
 cases d1:(r.v.o==r.o) with
 |false=>exact Qwx r a cap w (zz b1) d1 (zz (Ns λh=>ne_of_beq_false d1 h.2.1))
 |true=>
 cases d2:decide (1<=r.seq) with
 |false=>exact Qwy r a cap w (zz b1) d1 d2 (zz (Ns λh=>of_decide_eq_false d2 h.2.2.1))
 |true=>
 cases d3:decide (r.seq<=1099511627776) with
 |false=>exact Qwz r a cap w (zz b1) d1 d2 d3 (zz (Ns λh=>of_decide_eq_false d3 h.2.2.2.1))
 |true=>
 cases d4:decide (1<=(r.key.size:Int)) with
 |false=>exact Qx0 r a cap w (zz b1) d1 d2 d3 d4 (J3 (by omega) d4) (zz (Ns λh=>of_decide_eq_false d4 h.2.2.2.2.1))
 |true=>
 cases d5:decide ((r.key.size:Int)<=64) with
 |false=>exact Qx1 r a cap w (zz b1) d1 d2 d3 d4 (J3 (by omega) d4) d5 (J3 (by omega) d5) (zz (Ns λh=>of_decide_eq_false d5 h.2.2.2.2.2))
 |true=>
 refine Qrm r a cap w (zz b1) d1 d2 d3 d4 (J3 (by omega) d4) d5 (J3 (by omega) d5) (zz (Y9.2 ⟨b1,eq_of_beq d1,of_decide_eq_true d2,of_decide_eq_true d3,?_,?_⟩))
 ·have:=of_decide_eq_true d4;omega
 ·have:=of_decide_eq_true d5;omega
end Go.Proofs.YtgnkmjeoaoongaaGreatDoor
