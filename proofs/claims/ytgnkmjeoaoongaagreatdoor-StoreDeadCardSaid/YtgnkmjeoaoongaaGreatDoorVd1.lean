/- store -/
import Derived.Test.YtgnkmjeoaoongaaGreatDoorVc5
set_option maxRecDepth 100000
set_option maxHeartbeats 2000000
namespace Go.Proofs.YtgnkmjeoaoongaaGreatDoor
open Go.RowKit Go.Mer
theorem Qwj {k U:Nat} (h:k<U):min (k+1) U=k+1:=by omega
theorem Qwi {k U:Nat} (h:U<=k):min (k+1) U=min k U:=by omega
theorem Q28 (w:World) (k0:Zs) (m c:Int) (hc:Xr 148 w k0) (hs:Q45 k0.vs) (hn:k0.R.length<=1000000):
  Calls Tryz.prog 135 #[.pointer (some ⟨k0.b,0,none⟩),Xl m c] w λe w'=>e= .returned (.int .i64 ((Xk k0.vs m c:Nat)-1:Int))/\Kp No w w':=by
 obtain ⟨cb,ra,rc,R⟩:=k0;obtain ⟨n,hnR⟩: ∃n,n=R.length:=⟨_,rfl⟩;have hrow:(⟨cb,ra,rc,R⟩:Zs).row= .slice ra n rc:=by unfold Zs.row;rw [hnR]
 have hR:Rd w w.heap.size ra (R.flatMap Qv):=Own.rd' (a:=ra) (cap:=rc) (m:=R.length) hc.own;have hcell:=hc.cell;rw [hrow] at hcell;obtain ⟨vs,hvs⟩: ∃vs,vs=(⟨cb,ra,rc,R⟩:Zs).vs:=⟨_,rfl⟩;rw [<-hvs] at hs⊢;have Q4z:vs=R.map Qm.v:=hvs;obtain ⟨U,hU⟩: ∃U,U=Xk vs m c:=⟨_,rfl⟩;have Jgc:U<=n:=by rw [hU,hnR,<-List.length_map (f:=Qm.v),<-Q4z];exact Q1z _ _ _
 obtain ⟨w1,hw1⟩: ∃W,W=w.alloc (.cells #[.int .i64 m, .int .i64 c] 25):=⟨_,rfl⟩;have k1:Kp No w w1:=by rw [hw1];exact zK.alloc _
 have b1:w1.heap[w.heap.size]?=some (.cells #[.int .i64 m, .int .i64 c] 25 (0,0)):=by rw [hw1];exact heap_alloc_new w _
 obtain ⟨b,hb⟩: ∃b,b=w.heap.size:=⟨_,rfl⟩;rw [<-hb] at b1;have hcl:=Q7 hcell;have H:=zz (And.intro (k1.get hcell λx=>x) (And.intro b1 (And.intro (Rd.kp hR k1) k1)));have HS:=zz (And.intro hs (And.intro Q4z (And.intro hU Jgc)));have HN:=zz hnR;have HW:=zz hw1;have hn:R.length<=1000000:=hn;have hnn:n<=1000000:=by omega
 rw [<-hU];have J7i:=k1.lt hcl;have hbl:=Q7 b1;have c0: ∀W,Kp No w1 W->W.cell? ⟨cb,0,none⟩=some (.slice ra n rc):=λW hW=>Q4 (hW.get H.out.1 λx=>x) 0;have RB:=zz (show ∀W,Kp No w1 W->W.rangeAt b 0 [.int .i64 m, .int .i64 c] from λW hW=>by have:=Qg (hW.get H.out.2.1 λx=>x) 0 2;exact this);simp only [Xl];clear hc hs hn hnR hrow hR hcell hvs Q4z hU hw1 k1 b1 hcl;go_enter Tryz.func135,Tryz.ntmps135
 go_upto_region 1 with fail
 rw [<-HW.out,<-hb];clear hb;go_wp2_with fail
 go_loopw [5,6] (λv i wr=> ∃k:Nat,k<=n/\i= .int .i64 (k:Int)/\v= .int .i64 ((min k U:Nat)-1:Int)/\Hid (Kp No w1 wr)) (λ_ i _=>n-(intOf i).toNat)
 case atStart=>exact ⟨0,Nat.zero_le _,rfl,by simp,zz zK⟩
 case round=>
  obtain ⟨k,hk,rfl,rfl,HK⟩:=hrel;have ck:wr.cell? ⟨cb,0,none⟩=some (.slice ra n rc):=c0 wr HK.out;have hcr:=HK.out.lt J7i;obtain ⟨V,hV⟩: ∃V:Int,V=((min k U:Nat)-1:Int):=⟨_,rfl⟩;rw [<-hV];have HVV:=zz hV;clear hV;rcases Nat.lt_or_ge k n with hlt|hge
  ·have hkR:k<R.length:=by have:=HN.out;omega
   obtain ⟨g,off,rfl,hgl,hgr⟩:=Vz H.out.2.2.1 hkR;have hxk:vs[k]?=some R[k].v:=by rw [HS.out.2.1,List.getElem?_map,List.getElem?_eq_getElem hkR];rfl
   obtain ⟨x,hx⟩: ∃x,x=R[k]:=⟨_,rfl⟩;rw [<-hx] at hgr hxk
   have RX:=zz (show ∀W,Kp No wr W->W.rangeAt g (off+k*6) [.int .i64 x.v.m, .int .i64 x.v.c] from λW hW=>λj u hu=>by
    have h1:=hgr W (HK.out.Q0 hW) j u;match j,hu with
    |0,hu=>exact h1 hu
    |1,hu=>exact h1 hu)
   have Jew:=zz (show ∀W,Kp No wr W->W.rangeAt b 0 [.int .i64 m, .int .i64 c] from λW hW=>RB.out W (HK.out.Q0 hW));have cw: ∀W,Kp No wr W->W.cell? ⟨cb,0,none⟩=some (.slice (some ⟨g,off,none⟩) n rc):=λW hW=>c0 W (HK.out.Q0 hW);have hst:=(Vf x.v.m x.v.c m c).1;obtain ⟨q,hq⟩: ∃q,q=Z6 x.v.m x.v.c m c:=⟨_,rfl⟩;have HC:=zz (show ∀W,Calls Tryz.prog 27 #[Xl x.v.m x.v.c,Xl m c] W λe w'=>e= .returned (.int .i64 q)/\Kp No W w' from λW=>by rw [hq];exact Fq _ _ _ _ W);rw [<-hq] at hst;have J44:=zz hxk;have HST:=zz hst;clear hgr hxk hx hq hst hkR hgl c0;have HC2:=zz (show ∀W,Calls Tryz.prog 27 #[.agg #[.int .i64 x.v.m, .int .i64 x.v.c], .agg #[.int .i64 m, .int .i64 c]] W λe w'=>e= .returned (.int .i64 q)/\Kp No W w' from HC.out);clear HC;go_upto_region 5 with fail
   refine zD No [0,0,0,0,0,0,0,0,0,2,0] [0,1,2,3,4,5,6,7,8,9,10] ?_;repeat (first|refine zA ?_|refine zB ?_|refine zC ?_)
   apply Qb rfl rfl rfl
   ·intro W hW;exact Qc 25 _ rfl g (off+k*6) rfl [.int .i64 x.v.m, .int .i64 x.v.c] _ (RX.out W hW) Tryz.underlying25 rfl (by kernel_rfl)
   ·(focus (go_simp;rfl))
   repeat (first|refine zA ?_|refine zB ?_|refine zC ?_)
   apply Qb rfl rfl rfl
   ·intro W hW;exact Qc 25 _ rfl b 0 rfl [.int .i64 m, .int .i64 c] _ (Jew.out W hW) Tryz.underlying25 rfl (by kernel_rfl)
   ·(focus (go_simp;rfl))
   refine Q8 rfl rfl (λn1=>?_);go_wp2_with fail
   refine (HC2.out _).mono ?_;rintro e wa ⟨rfl,Ln⟩;have ka:Kp No wr wa:=Ln.Qf;clear Ln;go_wp2_with fail
   (try refine ⟨ka,?_⟩)
   repeat (first|refine zA ?_|refine zB ?_|refine zC ?_)
   refine Qa (λnq=>?_);have Dc:=zz ((HK.out.Q0 ka).drewN nq);clear ka cw ck;by_cases hq0:q<=0
   ·have d0:decide (q<=0)=true:=decide_eq_true hq0
    have J1k:k<U:=by
     have h1:=HST.out.1 hq0;rcases Nat.lt_or_ge k U with h2|h2
     ·exact h2
     ·have h3:=Qck HS.out.1 (m:=m) (c:=c) (i:=k) (by rw [<-HS.out.2.2.1];exact h2) J44.out;rw [h1] at h3;cases h3
    have HE:=zz (show ((min (k+1) U:Nat)-1:Int)=(k:Int) by rw [Qwj J1k];omega);clear J1k;go_wp2_with fail
    go_roundw
    case rel=>exact ⟨k+1,hlt,by go_num,by rw [HE.out],Dc⟩
    case measure=>simp [intOf];omega
   ·have d0:decide (q<=0)=false:=decide_eq_false hq0
    have J1k:U<=k:=by
     rcases Nat.lt_or_ge k U with h2|h2
     ·have h3:=Q20 (m:=m) (c:=c) (i:=k) (by rw [<-HS.out.2.2.1];exact h2) J44.out;exact absurd (HST.out.2 h3) hq0
     ·exact h2
    have HE:=zz (show ((min (k+1) U:Nat)-1:Int)=V by rw [Qwi J1k];exact HVV.out.symm);clear J1k;go_wp2_with fail
    go_roundw
    case rel=>exact ⟨k+1,hlt,by go_num,by rw [HE.out],Dc⟩
    case measure=>simp [intOf];omega
  ·obtain rfl:n=k:=by omega
   have HE:=zz (show V=((U:Nat)-1:Int) by rw [HVV.out,Nat.min_eq_right HS.out.2.2.2]);have Hx:=zz (H.out.2.2.2.Q0 HK.out);clear hge;go_wp2_with fail
   go_ret
   exact ⟨by rw [HE.out];rfl,Hx.out⟩
def Uj (w0:World) (R:List Qm) (wr:World) (v:Value) (k:Nat):Prop:=
 ∃Q:List Qm,Q.map Qm.v=(R.take k).map Qm.v/\Jd 44 6 Qv w0 wr v k Q/\ ∀y∈Q,y.ok wr/\ ∀g,y.sl.ownBlock=some g->w0.heap.size<=g
theorem Uj.nil (w:World) (R:List Qm):Uj w R w (.slice none 0 0) 0:=⟨[],rfl,Jd.nil _ _ _ _,λ_ hy=>absurd hy List.not_mem_nil⟩
theorem Uj.kp {w0 wr:World} {R:List Qm} {v:Value} {k:Nat} (h:Uj w0 R wr v k):Kp No w0 wr:=by
 obtain ⟨Q,_,h,_⟩:=h;exact h.2.2.2
theorem Uj.keep {w0 wr W:World} {R:List Qm} {v:Value} {k:Nat} (h:Uj w0 R wr v k) (hk:Kp No wr W):Uj w0 R W v k:=by
 obtain ⟨Q,h1,h2,h3⟩:=h;exact ⟨Q,h1,h2.keep hk,λy hy=>⟨(h3 y hy).1.keep hk λ_ _ x=>x,(h3 y hy).2⟩⟩
theorem Uj.step {w0 W:World} {R:List Qm} {v:Value} {k:Nat} (h:Uj w0 R W v k) (hk:k<R.length) (hn:R.length<=1000000) {y:Qm} (hy:y.v=R[k].v) (ho:y.ok W) (hf: ∀g,y.sl.ownBlock=some g->w0.heap.size<=g)
  {g:Nat} {t:TypeId} (hg:W.heap[g]?=some (.cells (Qv y).toArray t (0,0))):
  ∃a' c' W',(Builtin.append_ #[68,68] 68 #[v, .slice (some ⟨g,0,none⟩) 1 1]).run Tryz.prog W= .ok (.slice a' (k+1) c') W'/\Uj w0 R W' (.slice a' (k+1) c') (k+1):=by
 obtain ⟨Q,h1,h2,h3⟩:=h;obtain ⟨a',c',W',hrun,hrel,hkp⟩:=Jd.app (P:=Tryz.prog) (T:=68) Tryz.underlying68 Nr Fu h2 [y] (Of (f:=Qv) Zm (x:=y) hg rfl) rfl (by unfold maxLen;omega) (by omega)
 have hS: ∀gg,v.ownBlock=some gg-> ∀cur,W.heap[gg]?≠some (.cells cur 5 (0,0)):=λgg hgg cur J5=>by
  obtain ⟨cur',hc'⟩:=h2.2.1.type gg hgg;exact Qd J5 hc' (by decide) rfl
 refine ⟨a',c',W',hrun,Q++[y],?_,hrel,λz hz=>?_⟩
 ·rw [List.map_append,h1,List.take_succ_eq_append_getElem hk,List.map_append];simp [hy]
 ·rcases List.mem_append.1 hz with hz|hz
  ·exact ⟨(h3 z hz).1.apart hkp hS,(h3 z hz).2⟩
  ·rw [List.mem_singleton] at hz;subst hz;exact ⟨ho.apart hkp hS,hf⟩
theorem Qjc (w:World) (k0:Zs) (hc:Xr 203 w k0) (hn:k0.R.length<=1000000) (hl: ∀x∈k0.R,x.v.val.length<=140737488355328):
  Calls Tryz.prog 63 #[.pointer (some ⟨k0.b,0,none⟩)] w λe w'=> ∃a c,e= .returned (.slice a k0.R.length c)/\Uj w k0.R w' (.slice a k0.R.length c) k0.R.length:=by
 obtain ⟨cb,ra,rc,R⟩:=k0;simp only at hn hl⊢
 obtain ⟨n,hnR⟩: ∃n,n=R.length:=⟨_,rfl⟩;have hrow:(⟨cb,ra,rc,R⟩:Zs).row= .slice ra n rc:=by unfold Zs.row;rw [hnR]
 have hR:Rd w w.heap.size ra (R.flatMap Qv):=by have:=Own.rd' (a:=ra) (cap:=rc) (m:=R.length) hc.own;exact this
 have f0:w.cell? ⟨cb,0,none⟩=some (.slice ra n rc):=by
  have:=hc.cells.1 w zK;rw [hrow] at this;exact this
 have hcb:=Q7 hc.cell;simp only at hcb
 rw [<-hnR];have hnn:n<=1000000:=by omega
 have HC:=zz hc;have HN:=zz hnR;have HR:=zz hR;have Oq:=zz hn;have HL:=zz hl;clear hc hnR hR hrow hn hl;go_enter Tryz.func63,Tryz.ntmps63
 go_wp2_with fail
 go_loopw [3,13] (λs3 s13 wr=> ∃(k:Nat) (a:Option Addr) (cp:Nat),k<=n/\s13= .int .i64 k/\s3= .slice a k cp/\Hid (Uj w R wr (.slice a k cp) k)) (λ_ s13 _=>n-(intOf s13).toNat)
 case atStart=>exact ⟨0,none,0,Nat.zero_le _,rfl,rfl,zz (Uj.nil w R)⟩
 case round=>
  obtain ⟨k,a,cp,hk,rfl,rfl,HA⟩:=hrel;have hkw:=HA.out.kp;rcases Nat.lt_or_ge k n with hlt|hge
  ·have hkR:k<R.length:=by have:=HN.out;omega
   obtain ⟨g,off,rfl,hgl,hgr⟩:=Vz HR.out hkR;have hxo:R[k].ok wr:=(HC.out.vals R[k] (List.getElem_mem hkR)).keep hkw λ_ _ x=>x;have hxl:=HL.out R[k] (List.getElem_mem hkR);obtain ⟨x,hx⟩: ∃x,x=R[k]:=⟨_,rfl⟩;rw [<-hx] at hgr hxo hxl;have R1:=zz (hgr wr hkw);have hg3:=hkw.lt hgl;obtain ⟨w5,hw5⟩: ∃W,W=wr.alloc (.cells (Qv x).toArray 44):=⟨_,rfl⟩;have k5:Kp No wr w5:=by rw [hw5];exact zK.alloc _
   have b5:w5.heap[wr.heap.size]?=some (.cells (Qv x).toArray 44 (0,0)):=by rw [hw5];exact heap_alloc_new wr _
   have R5:=zz (show w5.rangeAt wr.heap.size 0 (Qv x) from by have:=Qg b5 0 6;exact this);have hl5:=Q7 b5;have how:=Q02 x w5 (Qm.X0 hxo.rd k5) hxl;have HOW:=zz how;have Vb:=zz k5;have Q2w:=zz hw5;have HX:=zz hx;have Qev:=zz hkR;clear hgr hxo hxl k5 b5 how hw5 hx hkw hgl
   go_upto_region 7 with (first
    |(refine Qj rfl 44 _ rfl g (off+k*6) rfl _ _ R1 Tryz.underlying44 rfl (by kernel_rfl) ?_)
    |(refine Qy rfl 44 _ _ rfl wr.heap.size (by rfl) _ _ _ rfl rfl (by kernel_rfl) (by rfl) (by rfl) ?_))
   rw [<-Q2w.out];go_wp2_with (refine Qj rfl 44 _ rfl wr.heap.size 0 rfl _ _ R5 Tryz.underlying44 rfl (by kernel_rfl) ?_)
   refine HOW.out.mono ?_;rintro e w6 ⟨y,hyv,rfl,hyo,Qi5,k6⟩;have h6:Kp No wr w6:=Vb.out.Q0 k6;have h7:Kp No w6 (w6.alloc (.cells (Qv y).toArray 44)):=zK.alloc _
   obtain ⟨a',c',w8,hrun,hnew⟩:=(HA.out.keep (h6.Q0 h7)).step Qev.out Oq.out (y:=y) (by rw [hyv,HX.out]) (hyo.keep h7 λ_ _ x=>x) (λgg hgg=>by
    have h1:=Qi5 gg hgg;have h2:=Vb.out.size;have h3:=HA.out.kp.size;omega) (heap_alloc_new w6 _)
   have Qi0:=zz hrun;have Y4:=zz hnew;simp only [Yk,Qv];clear hyv hyo Qi5 k6 h6 h7 hrun hnew HOW;go_wp2_with (at_builtin;refine wpList_append_run rfl rfl rfl rfl Qi0.out ?_)
   go_roundw
   case rel=>exact ⟨k+1,a',c',hlt,by push_cast;rfl,rfl,Y4⟩
   case measure=>simp [intOf];omega
  ·obtain rfl:k=n:=by omega
   clear hge hkw;go_wp2_with fail
   go_ret
   exact ⟨a,cp,rfl,HA.out⟩
def X4 (m c:Int) (f t:ByteArray) (x:ByteArray×List Qo):Option (ByteArray×List UInt8):=if Xp f t x.1=true then (Uh x.2 m c).map λb=>(x.1,b) else none
theorem Vj (m c:Int) (f t:ByteArray): ∀(l:List (ByteArray×List Qo)) (n:Nat),Vm m c f t n l=(l.filterMap (X4 m c f t)).take n
 |[],0=>rfl
 |[],_+1=>rfl
 |_::_,0=>by rw [List.take_zero];rfl
 |x::l,n+1=>by
  rw [Vm,List.filterMap_cons];unfold X4;by_cases h:Xp f t x.1=true
  ·rw [if_pos h,if_pos h];cases hg:Uh x.2 m c with
   |none=>exact Vj m c f t l (n+1)
   |some b=>
    show _::_=List.take (n+1) (_::_)
    rw [List.take_succ_cons,Vj m c f t l n];rfl
  ·rw [if_neg h,if_neg h];exact Vj m c f t l (n+1)
def Yn (m c:Int) (f t:ByteArray) (M:Nat) (l:List (ByteArray×List Qo)) (k:Nat):List (ByteArray×List UInt8):=((l.take k).filterMap (X4 m c f t)).take M
section
variable {m c:Int} {f t:ByteArray} {M k:Nat} {l:List (ByteArray×List Qo)}
theorem L9:Yn m c f t M l 0=[]:=by unfold Yn;simp
theorem Ki:Yn m c f t M l l.length=Vm m c f t M l:=by unfold Yn;rw [List.take_length,Vj]
theorem L7 (hk:k<l.length):(l.take (k+1)).filterMap (X4 m c f t)=(l.take k).filterMap (X4 m c f t)++(X4 m c f t l[k]).toList:=by
 rw [List.take_succ_eq_append_getElem hk,List.filterMap_append,List.filterMap_cons];cases X4 m c f t l[k]<;>rfl
theorem L8 (hk:k<l.length) (h:X4 m c f t l[k]=none):Yn m c f t M l (k+1)=Yn m c f t M l k:=by
 unfold Yn;rw [L7 hk,h];simp
theorem Q0p (hk:k<l.length) (h:M<=(Yn m c f t M l k).length):Yn m c f t M l (k+1)=Yn m c f t M l k:=by
 unfold Yn at h⊢;rw [List.length_take] at h;rw [L7 hk,List.take_append_of_le_length (by omega)]
theorem Q0q (hk:k<l.length) {y:ByteArray×List UInt8} (h:X4 m c f t l[k]=some y) (hm:(Yn m c f t M l k).length<M):Yn m c f t M l (k+1)=Yn m c f t M l k++[y]:=by
 unfold Yn at hm⊢;rw [List.length_take] at hm;rw [L7 hk,h,List.take_append,List.take_of_length_le (by omega)];congr 1
 rw [List.take_of_length_le]
 ·rfl
 ·show 1<=_
  omega
theorem Ci:(Yn m c f t M l k).length<=k:=by
 unfold Yn;have h1:=List.length_filterMap_le (X4 m c f t) (l.take k);rw [List.length_take] at h1⊢;omega
theorem Qlr (hk:k<l.length) {y:ByteArray×List UInt8} (h:X4 m c f t l[k]=some y) (hm:(Yn m c f t M l k).length<M):(Vm m c f t M l)[(Yn m c f t M l k).length]?=some y:=by
 unfold Yn at hm⊢;rw [List.length_take] at hm;have hA:(List.take M ((l.take k).filterMap (X4 m c f t))).length=((l.take k).filterMap (X4 m c f t)).length:=by rw [List.length_take];omega
 have he:l=l.take k++l[k]::l.drop (k+1):=by rw [<-List.drop_eq_getElem_cons hk,List.take_append_drop]
 have e:l.filterMap (X4 m c f t)=(l.take k).filterMap (X4 m c f t)++(y::(l.drop (k+1)).filterMap (X4 m c f t)):=by
  conv=>lhs;rw [he]
  rw [List.filterMap_append,List.filterMap_cons,h]
 rw [hA,Vj,e,List.getElem?_take,if_pos (by omega),List.getElem?_append_right (Nat.le_refl _),Nat.sub_self];rfl
theorem Qbz (h:M<=(Yn m c f t M l k).length):Yn m c f t M l k=Vm m c f t M l:=by
 unfold Yn at h⊢;rw [List.length_take] at h;rw [Vj];conv=>rhs;rw [<-List.take_append_drop k l]
 rw [List.filterMap_append,List.take_append_of_le_length (by omega)]
theorem Iy {x:ByteArray×List Qo} (h:Xp f t x.1=false):X4 m c f t x=none:=by unfold X4;rw [if_neg (by rw [h];decide)]
theorem Ix {x:ByteArray×List Qo} (h:Xp f t x.1=true):X4 m c f t x=(Uh x.2 m c).map λb=>(x.1,b):=by unfold X4;rw [if_pos h]
end
end Go.Proofs.YtgnkmjeoaoongaaGreatDoor
