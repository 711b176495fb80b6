/-
  WNms, WRrNum, SMore, SPut, SPut2.
-/
import Derived.Test.YtgnkmjeoaoongaaGreatDoorXc3
import Derived.Test.YtgnkmjeoaoongaaGreatDoorXc1
set_option maxRecDepth 100000
set_option maxHeartbeats 1000000
namespace Go.Proofs.YtgnkmjeoaoongaaGreatDoor
open Go.RowKit Go.Mer
def Vh (l:Jo):Prop:= ∀p∈l,Jh p.1=true
theorem A8 {l:List Qf} (hs:Li l) {v x:Qf} {i:Nat} (hx:l[i]?=some x):C5 x v=true↔i<Fm l v:=by
 have hil:=(List.getElem?_eq_some_iff.1 hx).1;constructor
 ·intro h;refine Decidable.byContradiction λhn=>?_;have h0:l[Fm l v]?=some l[Fm l v]:=List.getElem?_eq_getElem (by omega);have h1:=Ud (p:=λx=>C5 x v) h0;have h1:C5 l[Fm l v] v=false:=h1;rcases Nat.lt_or_ge (Fm l v) i with hlt|hge
  ·have h2:=List.pairwise_iff_getElem.1 hs _ _ (by omega) hil hlt;rw [(List.getElem?_eq_some_iff.1 hx).2] at h2;rw [Ip h2 h] at h1;cases h1
  ·have e:Fm l v=i:=by omega
   simp only [e] at h1;rw [(List.getElem?_eq_some_iff.1 hx).2,h] at h1;cases h1
 ·intro h;refine Nq (l:=l) (List.mem_of_getElem? (i:=i) ?_);rw [List.getElem?_take_of_lt h];exact hx
theorem Kw {α:Type} (p:α->Bool): ∀(l:List α) (n:Nat),n<=(l.takeWhile p).length->((l.drop n).takeWhile p).length=(l.takeWhile p).length-n:=by
 intro l;induction l with
 |nil=>intro n h;simp
 |cons x l ih=>
  intro n h;cases n with
  |zero=>rfl
  |succ n=>
   rw [List.takeWhile_cons] at h⊢;split at h
   ·next hp=>
    rw [if_pos hp,List.drop_succ_cons,List.length_cons,Nat.add_sub_add_right];exact ih n (by rw [List.length_cons] at h;omega)
   ·rw [List.length_nil] at h;omega
theorem Qd6 {l:List Qf} {m c n d:Int} (h:Z6 n d m c=false):Z0 l m c<=Z0 l n d:=by
 unfold Z0;induction l with
 |nil=>exact Nat.le_refl _
 |cons x l ih=>
  rw [List.takeWhile_cons,List.takeWhile_cons];cases hx:Z6 m c x.m x.c with
  |true=>exact Nat.zero_le _
  |false=>
   have:Z6 n d x.m x.c=false:=by
    rw [Ed] at*;omega
   rw [this];exact Nat.succ_le_succ ih
theorem Qcp {v:Qf} {m c n d:Int} (h:Z6 n d m c=false) (hv:Z6 m c v.m v.c=false) (hs:Vr v m c=false):Vr v n d=false:=by
 unfold Vr at hs⊢;rw [hv] at hs
 have:Z6 n d v.m v.c=false:=by
  rw [Ed] at*;omega
 rw [this];simp only [Bool.not_false,Bool.true_and] at hs⊢;cases hg:v.gone with
 |true=>rfl
 |false=>
  rw [hg] at hs;simp only [Bool.not_false,Bool.true_and,Bool.or_eq_false_iff,decide_eq_false_iff_not] at hs⊢;refine ⟨hs.1,λhlt=>hs.2 ?_⟩;rw [Ed] at h;omega
theorem Gc {l:List Qf} {m c:Int}:Lw l m c=none↔Z0 l m c=0:=by
 have:=Gu l m c;unfold Lw;split
 ·next h=>exact ⟨λ_=>h,λ_=>rfl⟩
 ·next h=>
  rw [List.getElem?_eq_none_iff];omega
theorem Qfv {l:List Qf} {m c n d:Int} (h:Z6 n d m c=false):U1 (Zl l m c) n d=U1 l n d:=by
 have Qrc:=Gu l m c;have Jao:=Gu l n d;have hmono:=Qd6 (l:=l) h
 have hn:Jb l m c<=Z0 l m c:=by
  unfold Jb;split
  ·exact Nat.zero_le _
  ·split
   ·exact Nat.sub_le _ _
   ·exact Nat.le_refl _
 have hd:Z0 (Zl l m c) n d=Z0 l n d-Jb l m c:=Kw _ l _ (Nat.le_trans hn hmono);rcases Nat.lt_or_ge (Jb l m c) (Z0 l n d) with hlt|hge
 ·have e:Lw (Zl l m c) n d=Lw l n d:=by
   unfold Lw;rw [hd,if_neg (by omega),if_neg (by omega)];unfold Zl;rw [List.getElem?_drop];congr 1
   omega
  unfold U1;rw [e]
 ·have e0:Lw (Zl l m c) n d=none:=Gc.2 (by rw [hd];omega);have hun:Z0 l n d=Z0 l m c/\Jb l m c=Z0 l m c:=by omega
  unfold U1;rw [e0];cases ha:Lw l n d with
  |none=>rfl
  |some v=>
   have hm:Lw l m c=some v:=by
    rw [<-ha];unfold Lw;rw [hun.1]
   have hpos:Z0 l m c≠0:=λh0=>by rw [Gc.2 h0] at hm;cases hm
   have hs:Vr v m c=false:=by
    have:=hun.2;unfold Jb at this;rw [hm] at this;simp only at this
    cases hq:Vr v m c with
    |false=>rfl
    |true=>rw [hq,if_pos rfl] at this;omega
   have hvb:Z6 m c v.m v.c=false:=by
    unfold Lw at hm;rw [if_neg hpos] at hm;exact Nu (by omega) hm
   simp only [Qcp h hvb hs];rfl
theorem Q7q {l:List (ByteArray×List Qf)} (hs:Je l) (m c:Int) (k:ByteArray):Qi (Fi l m c) k=Zl (Qi l k) m c:=by
 unfold Qi;induction l with
 |nil=>rfl
 |cons x l ih=>
  have h2:=(List.pairwise_cons.1 hs).2;rw [Jz]
  have e:Fi (x::l) m c=if Zl x.2 m c≠[] then (x.1,Zl x.2 m c)::Fi l m c else Fi l m c:=by
   unfold Fi;rw [List.map_cons,List.filter_cons];by_cases hx:Zl x.2 m c≠[]
   ·rw [if_pos hx,if_pos (decide_eq_true hx)]
   ·rw [if_neg hx,if_neg (by simpa using hx)]
  rw [e];by_cases hk:x.1=k
  ·rw [if_pos hk];by_cases hx:Zl x.2 m c≠[]
   ·rw [if_pos hx,Jz,if_pos hk];rfl
   ·rw [if_neg hx]
    have hg:Qo (Fi l m c) k=none:=Ya (by
     intro hm;obtain ⟨p,hp,hpk⟩:=List.mem_map.1 hm;obtain ⟨_,y,hy,rfl⟩:=Q1q hp;have h3:=(List.pairwise_cons.1 hs).1 y hy;have h4:y.1=k:=hpk;rw [h4,hk] at h3;exact J5 _ h3)
    rw [hg];exact (Decidable.byContradiction hx).symm
  ·rw [if_neg hk];by_cases hx:Zl x.2 m c≠[]
   ·rw [if_pos hx,Jz,if_neg hk];exact ih h2
   ·rw [if_neg hx];exact ih h2
theorem Q0z {o:Nat} {st:J7} (hs:Je st.keys) (r:Qx) (k:ByteArray):Qi (Gq o st r).keys k=if r.key=k then Yd (Qi st.keys k) r.v else Qi st.keys k:=by
 show (Qo (Jn st.keys r.key (Yd (Qi st.keys r.key) r.v)) k).getD []=_
 rw [Gi hs];by_cases h:r.key=k
 ·rw [if_pos h,if_pos h,h];rfl
 ·rw [if_neg h,if_neg h];rfl
theorem Q69 {o:Nat} {st:J7} (hs:Je st.keys) (r:Qx):Je (Gq o st r).keys:=Zs hs _ _
theorem Q7p {o:Nat}: ∀(l:List Qx) {st:J7},Je st.keys-> ∀k,Qi (Jf o st l).keys k=((l.filter λr=>decide (r.key=k)).map (·.v)).foldl Yd (Qi st.keys k):=by
 intro l;induction l with
 |nil=>intro st _ k;rfl
 |cons r l ih=>
  intro st hs k;have h1:=ih (st:=Gq o st r) (Q69 hs r) k;show Qi (Jf o (Gq o st r) l).keys k=_
  rw [h1,Q0z hs];by_cases hk:r.key=k
  ·rw [if_pos hk,List.filter_cons_of_pos (by simpa using hk)];rfl
  ·rw [if_neg hk,List.filter_cons_of_neg (by simpa using hk)]
theorem Yh {w:World} {a:Option Addr} {R:List Qd} (h:Rd w w.heap.size a (R.flatMap Qg)) {k:Nat} (hk:k<R.length):
  ∃g off,a=some ⟨g,off,none⟩/\g<w.heap.size/\ ∀W,Kp No w W->W.rangeAt g (off+k*6) (Qg R[k]):=by
 obtain ⟨g,off,ha,hc⟩:=Ye (f:=Qg) J8 (by decide) h hk;obtain ⟨g',off',ha',hg',_⟩:=h (by rw [Vz Qg 6 J8];omega);rw [ha] at ha';injection ha' with ha';injection ha' with e1 e2;exact ⟨g,off,ha,by rw [e1];exact hg',λW hW j u hu=>hc W hW j u hu⟩
theorem Qhq (a b:Qf):0<Om a b↔C5 b a=true:=by
 rw [Ld];unfold Om Q33 Js Vv;repeat' split
 all_goals omega
def Qzw (w:World) (_:Nat) (i:Nat) (b:Bool) (e:Ending) (w':World):Prop:=e= .returned (.tuple #[.int .i64 (i:Int), .bool b])/\Kp No w w'
theorem Q7j (w:World) (a:Option Addr) (cap:Nat) (R:List Qd) (hR:Rd w w.heap.size a (R.flatMap Qg)) (_hc:R.length<=cap) (hn:R.length<=1000000) (hs:Li (R.map Qd.v)) (x:Qd):
  Calls Tryz.prog 190 #[.slice a R.length cap,Y0 x, .func (.func 191) #[] #[]] w (Qzw w R.length (Fm (R.map Qd.v) x.v) (Yu (R.map Qd.v) x.v)):=by
 obtain ⟨p,hp⟩: ∃p,p=Fm (R.map Qd.v) x.v:=⟨_,rfl⟩;obtain ⟨bh,Qyb⟩: ∃bh,bh=Yu (R.map Qd.v) x.v:=⟨_,rfl⟩;have hpl:p<=R.length:=by rw [hp];have:=Cf (R.map Qd.v) x.v;rwa [List.length_map] at this
 have hlt: ∀k (h:k<R.length),Om R[k].v x.v<0↔k<p:=λk h=>by
  rw [A5,hp];exact A8 hs (by rw [List.getElem?_map,List.getElem?_eq_getElem h];rfl)
 have hat:bh=match (R.map Qd.v)[p]? with|some y=>!C5 x.v y|none=>false:=by rw [Qyb,hp];rfl
 obtain ⟨n,hnR⟩: ∃n,n=R.length:=⟨_,rfl⟩;rw [<-hp,<-Qyb,<-hnR];rw [<-hnR] at hpl _hc hn;have HR:=zz hR;have Qz7:=zz hlt;have HAT:=zz hat;have HN:=zz hnR;have HP:=zz (And.intro hp Qyb);have HS:=zz hs;clear hR hs hlt hat hnR hp Qyb;obtain ⟨w1,hw1⟩: ∃W,W=w.alloc (.cells (Qg x).toArray 44):=⟨_,rfl⟩;have k1:Kp No w w1:=by rw [hw1];exact zK.alloc _
 have bx:w1.heap[w.heap.size]?=some (.cells (Qg x).toArray 44 (0,0)):=by rw [hw1];exact heap_alloc_new w _
 have HX:=zz (show ∀W,Kp No w1 W->W.rangeAt w.heap.size 0 (Qg x) from λW hW=>by have:=Qb (hW.get bx λx=>x) 0 6;exact this);have U8:=zz k1;have hxl:=Q3 bx;have J48:=zz hxl;have Qwy:w.alloc (.cells #[.int .i64 x.v.m, .int .i64 x.v.c, .int .i64 x.v.o,x.sl, .bool x.v.gone, .int .i64 x.v.ttl] 44)=w1:=hw1.symm
 have J3x:=zz (show ∀k (h:k<R.length),∃g off,a=some ⟨g,off,none⟩/\g<w1.heap.size/\ ∀W,Kp No w1 W->W.rangeAt g (off+k*6) (Qg R[k]) from λk h=>by
  obtain ⟨g,off,h1,h2,h3⟩:=Yh HR.out h;exact ⟨g,off,h1,Nat.lt_of_lt_of_le h2 U8.out.size,λW hW=>h3 W (U8.out.trans_same hW)⟩)
 have HW1:=zz Qwy;clear hw1 k1 bx Qwy HR hxl;unfold Y0 Qg;go_enter Tryz.func190,Tryz.ntmps190
 go_wp2_with fail
 (try rw [HW1.out])
 go_loopw [9,10] (λs9 s10 wr=> ∃lo hi:Nat,s9= .int .i64 lo/\s10= .int .i64 hi/\lo<=p/\p<=hi/\hi<=n/\Hid (Kp No w1 wr)) (λs9 s10 _=>(intOf s10).toNat-(intOf s9).toNat)
 case atStart=>exact ⟨0,n,rfl,rfl,Nat.zero_le _,hpl,Nat.le_refl _,zz zK⟩
 case round=>
  obtain ⟨lo,hi,rfl,rfl,hlp,J8w,hhn,HK⟩:=hrel;by_cases hlh:lo<hi
  ·obtain ⟨m,hm0⟩: ∃m,m=(lo+hi)/2:=⟨_,rfl⟩;have hml:lo<=m:=by omega
   have Jas:m<hi:=by omega
   have hmn:m<n:=by omega
   have hm:((lo:Int)+(hi:Int))/2=(m:Int):=by omega
   have hmR:m<R.length:=by have:=HN.out;omega
   obtain ⟨g,off,rfl,hgl,hgr⟩:=J3x.out m hmR;have hlt:=Qz7.out m hmR;obtain ⟨y,hy⟩: ∃y,y=R[m]:=⟨_,rfl⟩;rw [<-hy] at hgr hlt;obtain ⟨z,hz⟩: ∃z,z=Om y.v x.v:=⟨_,rfl⟩;have hcm:=λW=>Cv y x W;rw [<-hz] at hlt hcm;have Q6w:=zz hgr;have HCM:=zz hcm;have Qvm:g<wr.heap.size:=HK.out.lt hgl;have J27:w.heap.size<wr.heap.size:=HK.out.lt J48.out;clear hm0 hmR hgr hcm hy hz hgl;have hzz:(z<0/\m<p)\/(0<=z/\p<=m):=by omega
   clear hlt;rcases hzz with ⟨hz1,hz2⟩|⟨hz1,hz2⟩
   ·have hd:decide (z<0)=true:=decide_eq_true hz1;go_upto_region 5 with fail
    refine zD No [0,0,0,0,0,0,2,0] [0,1,2,3,4,5,6,7] ?_;repeat (first|refine zA ?_|refine zB ?_|refine zC ?_)
    apply Q8 rfl rfl rfl
    ·intro W hW;exact Q9 44 _ rfl g (off+m*6) rfl (Qg y) _ (Q6w.out W (HK.out.trans_same hW)) Tryz.underlying44 rfl (by kernel_rfl)
    ·(focus (go_simp;rfl))
    apply Q8 rfl rfl rfl
    ·intro W hW;exact Q9 44 _ rfl w.heap.size 0 rfl (Qg x) _ (HX.out W (HK.out.trans_same hW)) Tryz.underlying44 rfl (by kernel_rfl)
    ·(focus (go_simp;rfl))
    refine Q4 rfl rfl (λq=>?_);go_wp2_with fail
    refine (HCM.out _).mono ?_;rintro e w2 ⟨rfl,hk2⟩;go_wp2_with fail
    refine ⟨hk2.of_drewN,?_⟩;repeat (first|refine zA ?_|refine zB ?_|refine zC ?_)
    refine Q6 (λnq=>?_);have Qz:=zz ((HK.out.trans_same hk2.of_drewN).drewN nq);clear hk2;go_wp2_with fail
    go_roundw
    case rel=>exact ⟨m+1,hi,by go_num,rfl,by omega,J8w,hhn,Qz⟩
    case measure=>simp [intOf];omega
   ·have hd:decide (z<0)=false:=decide_eq_false (by omega);go_upto_region 5 with fail
    refine zD No [0,0,0,0,0,0,2,0] [0,1,2,3,4,5,6,7] ?_;repeat (first|refine zA ?_|refine zB ?_|refine zC ?_)
    apply Q8 rfl rfl rfl
    ·intro W hW;exact Q9 44 _ rfl g (off+m*6) rfl (Qg y) _ (Q6w.out W (HK.out.trans_same hW)) Tryz.underlying44 rfl (by kernel_rfl)
    ·(focus (go_simp;rfl))
    apply Q8 rfl rfl rfl
    ·intro W hW;exact Q9 44 _ rfl w.heap.size 0 rfl (Qg x) _ (HX.out W (HK.out.trans_same hW)) Tryz.underlying44 rfl (by kernel_rfl)
    ·(focus (go_simp;rfl))
    refine Q4 rfl rfl (λq=>?_);go_wp2_with fail
    refine (HCM.out _).mono ?_;rintro e w2 ⟨rfl,hk2⟩;go_wp2_with fail
    refine ⟨hk2.of_drewN,?_⟩;repeat (first|refine zA ?_|refine zB ?_|refine zC ?_)
    refine Q6 (λnq=>?_);have Qz:=zz ((HK.out.trans_same hk2.of_drewN).drewN nq);clear hk2;go_wp2_with fail
    go_roundw
    case rel=>exact ⟨lo,m,rfl,rfl,hlp,hz2,by omega,Qz⟩
    case measure=>simp [intOf];omega
  ·have hlo:lo=p:=by omega
   subst hlo;rcases Nat.lt_or_ge lo n with hln|hln
   ·have hmR:lo<R.length:=by have:=HN.out;omega
    obtain ⟨g,off,rfl,hgl,hgr⟩:=J3x.out lo hmR;have hlt:=Qz7.out lo hmR;have hat:=HAT.out;rw [List.getElem?_map,List.getElem?_eq_getElem hmR] at hat;simp only [Option.map_some] at hat;obtain ⟨y,hy⟩: ∃y,y=R[lo]:=⟨_,rfl⟩;rw [<-hy] at hgr hlt hat;have hpos:=Qhq y.v x.v;obtain ⟨z,hz⟩: ∃z,z=Om y.v x.v:=⟨_,rfl⟩;have hcm:=λW=>Cv y x W;rw [<-hz] at hlt hcm hpos;have Q6w:=zz hgr;have HCM:=zz hcm;have Qvm:g<wr.heap.size:=HK.out.lt hgl;have J27:w.heap.size<wr.heap.size:=HK.out.lt J48.out
    have hzz:(z=0/\bh=true)\/(0<z/\bh=false):=by
     rcases Int.lt_trichotomy z 0 with h|h|h
     ·exact absurd (hlt.1 h) (Nat.lt_irrefl _)
     ·left
      refine ⟨h,?_⟩
      have:C5 x.v y.v=false:=by
       cases hv:C5 x.v y.v with
       |false=>rfl
       |true=>have:=hpos.2 hv;omega
      rw [hat,this];rfl
     ·right
      refine ⟨h,?_⟩;rw [hat,hpos.1 h];rfl
    clear hmR hgr hcm hy hz hgl hlt hat hpos;rcases hzz with ⟨hz1,hz2⟩|⟨hz1,hz2⟩
    ·have hd:(z==0)=true:=by rw [beq_iff_eq];exact hz1
     have HB:=zz hz2;clear hz1 hz2;go_upto_region 8 with fail
     refine zD No [0,0,0,0,0,0,0,0,0,0,0,2,0,0,0,0] [0,1,2,3,4,5,6,7,8,9,10,11,12,13,14,15] ?_;repeat (first|refine zA ?_|refine zB ?_|refine zC ?_)
     apply Q8 rfl rfl rfl
     ·intro W hW;exact Q9 44 _ rfl g (off+lo*6) rfl (Qg y) _ (Q6w.out W (HK.out.trans_same hW)) Tryz.underlying44 rfl (by kernel_rfl)
     ·(focus (go_simp;rfl))
     apply Q8 rfl rfl rfl
     ·intro W hW;exact Q9 44 _ rfl w.heap.size 0 rfl (Qg x) _ (HX.out W (HK.out.trans_same hW)) Tryz.underlying44 rfl (by kernel_rfl)
     ·(focus (go_simp;rfl))
     refine Q4 rfl rfl (λq=>?_);go_wp2_with fail
     refine (HCM.out _).mono ?_;rintro e w2 ⟨rfl,hk2⟩;go_wp2_with fail
     refine ⟨hk2.of_drewN,?_⟩;repeat (first|refine zA ?_|refine zB ?_|refine zC ?_)
     refine Q6 (λnq=>?_);have Qz:=zz ((U8.out.trans_same (HK.out.trans_same hk2.of_drewN)).drewN nq);clear hk2;go_wp2_with fail
     go_ret2
     exact ⟨by rw [HB.out];rfl,Qz.out⟩
    ·have hd:(z==0)=false:=by rw [beq_eq_false_iff_ne];omega
     have HB:=zz hz2;clear hz1 hz2;go_upto_region 8 with fail
     refine zD No [0,0,0,0,0,0,0,0,0,0,0,2,0,0,0,0] [0,1,2,3,4,5,6,7,8,9,10,11,12,13,14,15] ?_;repeat (first|refine zA ?_|refine zB ?_|refine zC ?_)
     apply Q8 rfl rfl rfl
     ·intro W hW;exact Q9 44 _ rfl g (off+lo*6) rfl (Qg y) _ (Q6w.out W (HK.out.trans_same hW)) Tryz.underlying44 rfl (by kernel_rfl)
     ·(focus (go_simp;rfl))
     apply Q8 rfl rfl rfl
     ·intro W hW;exact Q9 44 _ rfl w.heap.size 0 rfl (Qg x) _ (HX.out W (HK.out.trans_same hW)) Tryz.underlying44 rfl (by kernel_rfl)
     ·(focus (go_simp;rfl))
     refine Q4 rfl rfl (λq=>?_);go_wp2_with fail
     refine (HCM.out _).mono ?_;rintro e w2 ⟨rfl,hk2⟩;go_wp2_with fail
     refine ⟨hk2.of_drewN,?_⟩;repeat (first|refine zA ?_|refine zB ?_|refine zC ?_)
     refine Q6 (λnq=>?_);have Qz:=zz ((U8.out.trans_same (HK.out.trans_same hk2.of_drewN)).drewN nq);clear hk2;go_wp2_with fail
     go_ret2
     exact ⟨by rw [HB.out];rfl,Qz.out⟩
   ·obtain rfl:n=lo:=by omega
    have hb:bh=false:=by
     have hat:=HAT.out;rw [List.getElem?_eq_none (by rw [List.length_map,<-HN.out];exact Nat.le_refl _)] at hat;exact hat
    have HB:=zz hb;clear hb hlp;go_upto_region 8 with fail
    refine zD No [0,0,0,0,0,0,0,0,0,0,0,2,0,0,0,0] [0,1,2,3,4,5,6,7,8,9,10,11,12,13,14,15] ?_;repeat (first|refine zA ?_|refine zB ?_|refine zC ?_)
    refine Z3 rfl rfl (by rfl) rfl (λq=>⟨zK.drewN q,?_⟩);repeat (first|refine zA ?_|refine zB ?_|refine zC ?_)
    refine Q6 (λnq=>?_);go_wp2_with fail
    go_ret2
    exact ⟨by rw [HB.out];rfl,((U8.out.trans_same HK.out).drewN _).drewN _⟩
structure Qb8 (t:TypeId) (c c':Ja) (x:Qf) (w w':World):Prop where
 b:c'.b=c.b
 vs:c'.vs=Yd c.vs x
 ok:Y7 t w' c'
 kp:Kp (λk=>k=c.b\/c.row.ownBlock=some k) w w'
 row:c'.row.ownBlock=c.row.ownBlock\/ ∃g,c'.row.ownBlock=some g/\w.heap.size<=g
 vals: ∀y∈c'.R,y∈c.R\/ ∀g,y.sl.ownBlock=some g->w.heap.size<=g
theorem Qcd (R:List Qd) (y:Qd) (i:Nat):(R.flatMap Qg).take (i*6)++(Qg y++(R.flatMap Qg).drop (i*6))=(R.take i++y::R.drop i).flatMap Qg:=by
 rw [Xa Qg 6 J8,Yn Qg 6 J8,List.flatMap_append,List.flatMap_cons]
theorem Qfp (R:List Qd): ∀u∈R.flatMap Qg,u.oneCell'=true:=λu hu=>by
 obtain ⟨y,_,hy⟩:=List.mem_flatMap.1 hu;exact Yg y u hy
theorem Qd.Fg {x:Qd} {w w':World} (h:x.rd w) (hk:Kp No w w'):x.rd w':=⟨Rd.kp h.1 hk,h.2⟩
theorem Q47 (w:World) (c:Ja) (x:Qd) (hc:Y7 203 w c) (hs:Li c.vs) (hx:x.rd w) (hv:Zx x.v=true) (hh:Yu c.vs x.v=false) (hn:c.R.length<=1000000):
  Calls Tryz.prog 115 #[.pointer (some ⟨c.b,0,none⟩),Y0 x] w λe w'=>e= .returned (.int .i64 0)/\ ∃c',Qb8 203 c c' x.v w w':=by
 obtain ⟨cb,ra,rc,R⟩:=c;obtain ⟨n,hnR⟩: ∃n,n=R.length:=⟨_,rfl⟩
 have hcl:R.length<=rc:=by
  obtain ⟨_,a,cap,e,h1,_⟩:=hc.own;unfold Ja.row at e;injection e with _ _ e3;have e3:rc=cap:=e3;rw [e3];exact h1
 have hrow:(⟨cb,ra,rc,R⟩:Ja).row= .slice ra n rc:=by unfold Ja.row;rw [hnR]
 obtain ⟨w1,hw1⟩: ∃W,W=w.alloc (.cells (Qg x).toArray 44):=⟨_,rfl⟩;have k1:Kp No w w1:=by rw [hw1];exact zK.alloc _
 have bx:w1.heap[w.heap.size]?=some (.cells (Qg x).toArray 44 (0,0)):=by rw [hw1];exact heap_alloc_new w _
 have hbl:=Q3 hc.cell;simp only at hbl hn hcl
 obtain ⟨p,hp⟩: ∃p,p=Fm (R.map Qd.v) x.v:=⟨_,rfl⟩;have hpn:p<=n:=by rw [hp,hnR];have:=Cf (R.map Qd.v) x.v;rwa [List.length_map] at this
 have HC:=zz hc;have HS:=zz hs;have HX:=zz hx;have HV:=zz hv;have HH:=zz (show Yu (R.map Qd.v) x.v=false from hh);have HN:=zz hnR;have HP:=zz hp;have Q3g:=zz hcl;have V0:=zz hrow;have U8:=zz k1;have Qj3:=zz bx;have HW1:=zz (show w.alloc (.cells #[.int .i64 x.v.m, .int .i64 x.v.c, .int .i64 x.v.o,x.sl, .bool x.v.gone, .int .i64 x.v.ttl] 44)=w1 from hw1.symm);have Ds:=zz hn;clear hc hs hx hv hh hnR hp hcl hrow k1 bx hw1 hn;unfold Y0 Qg;go_enter Tryz.func115,Tryz.ntmps115
 go_upto_region 1 with fail
 (try rw [HW1.out])
 have d0:w1.cell? ⟨w.heap.size,0,none⟩=some (.int .i64 x.v.m):=Q0 Qj3.out 0;have d1:w1.cell? ⟨w.heap.size,1,none⟩=some (.int .i64 x.v.c):=Q0 Qj3.out 1;have d2:w1.cell? ⟨w.heap.size,2,none⟩=some (.int .i64 x.v.o):=Q0 Qj3.out 2;have d3:w1.cell? ⟨w.heap.size,3,none⟩=some x.sl:=Q0 Qj3.out 3;have d4:w1.cell? ⟨w.heap.size,4,none⟩=some (.bool x.v.gone):=Q0 Qj3.out 4;have d5:w1.cell? ⟨w.heap.size,5,none⟩=some (.int .i64 x.v.ttl):=Q0 Qj3.out 5;have hxl:=U8.out.size;have J28:=Q3 Qj3.out;go_wp2_with fail
 refine (Qkf x w1).mono ?_;rintro e w2 ⟨rfl,k2⟩;rw [HV.out];have Qz:=zz (U8.out.trans_same k2);have Q8k:=Q3 (k2.get Qj3.out λx=>x);have Qva:=Qz.out.lt hbl
 have f0: ∀W,Kp No w2 W->W.cell? ⟨cb,0,none⟩=some (.slice ra n rc):=λW hW=>by
  have:=HC.out.cells.1 W (Qz.out.trans_same hW);rw [V0.out] at this;exact this
 have Q3l:=zz (show ∀W,Kp No w2 W->W.rangeAt w.heap.size 0 (Qg x) from λW hW=>by have:=Qb ((k2.trans_same hW).get Qj3.out λx=>x) 0 6;exact this);clear k2 J28 d0 d1 d2 d3 d4 d5;go_upto_region 3 with fail
 refine zD No [0,0,0,0,0,2,0,0,0,0,0] [0,1,2,3,4,5,6,7,8,9,10] ?_;repeat (first|refine zA ?_|refine zB ?_|refine zC ?_)
 apply Q8 rfl rfl rfl
 ·intro W hW;exact Q9 44 _ rfl w.heap.size 0 rfl (Qg x) _ (Q3l.out W hW) Tryz.underlying44 rfl (by kernel_rfl)
 ·(focus (go_simp;rfl))
 refine Q4 rfl rfl (λq=>?_);have Qlh:=Q7j (w2.drewN q) ra rc R ((Rd.kp (by have:=Own.rd' (a:=ra) (cap:=rc) (m:=R.length) HC.out.own;exact this) Qz.out).drewN q) Q3g.out Ds.out HS.out x;rw [<-HN.out,<-HP.out,HH.out] at Qlh;have J41:=zz Qlh;clear Qlh;go_wp2_with fail
 refine J41.out.mono ?_;rintro e w3 ⟨rfl,k3⟩;go_wp2_with fail
 refine ⟨k3.of_drewN,?_⟩;repeat (first|refine zA ?_|refine zB ?_|refine zC ?_)
 refine Q6 (λnq=>?_);obtain ⟨w4,hw4⟩: ∃W,W=w3.drewN nq:=⟨_,rfl⟩;have k4:Kp No w2 w4:=by rw [hw4];exact k3.of_drewN.drewN nq
 have Ox:=zz (Qz.out.trans_same k4)
 have Qsh:=zz (show ∀W,Kp (λk=>(Value.slice ra n rc).ownBlock=some k) w4 W->W.rangeAt w.heap.size 0 (Qg x) from λW hW=>λj u hu=>by
  have h1:=Q3l.out w4 k4 j u hu;have hlt4:=k4.lt Q8k
  rw [hW.cell (p:=⟨w.heap.size,0+j,none⟩) hlt4 (λe=>by
   rw [<-V0.out] at e;have:=HC.out.own.lt _ e;exact Nat.lt_irrefl _ this)]
  exact h1)
 have Qqa:=k4.lt Qva;have J95:=k4.lt Q8k
 have hne: ∀g,(Value.slice ra n rc).ownBlock=some g->g≠cb:=λg hg=>by
  rw [<-V0.out] at hg;exact HC.out.row_ne (by decide) hg
 have f4: ∀W,Kp (λk=>(Value.slice ra n rc).ownBlock=some k) w4 W->W.cell? ⟨cb,0,none⟩=some (.slice ra n rc):=λW hW=>by
  rw [hW.cell (p:=⟨cb,0,none⟩) Qqa (λe=>hne _ e rfl)];exact f0 w4 k4
 have g4: ∀W,Kp (λk=>(Value.slice ra n rc).ownBlock=some k) w4 W->W.frozen? ⟨cb,0,none⟩=false:=λW hW=>by
  rw [hW.frozen (p:=⟨cb,0,none⟩) Qqa (λe=>hne _ e rfl)];exact HC.out.cells.2 w4 Ox.out
 rw [<-hw4];clear hw4 k3 k4 f0 Q3l J41 Q8k Qva;go_upto_region 6 with fail
 refine J4 (Kp (λk=>(Value.slice ra n rc).ownBlock=some k) w4) [0,0,0,0,0,0,0,2,2,2,0,0,2] [0,1,2,3,4,5,6,7,8,9,10,11] 12 (by kernel_rfl) (by kernel_rfl) (λ_ n h=>h.drewN n) zK ?_;repeat (first|refine zA ?_|refine zB ?_|refine zC ?_)
 apply Q8 rfl rfl rfl
 ·intro W hW;exact Q9 44 _ rfl w.heap.size 0 rfl (Qg x) _ (Qsh.out W hW) Tryz.underlying44 rfl (by kernel_rfl)
 ·(focus (go_simp;rfl))
 refine Q4 rfl rfl (λq2=>?_)
 have hlen:x.v.val.length<=140737488355328:=by
  have:=(Zo.1 HV.out).2.2.2.1;omega
 have how:=Cw x (w4.drewN q2) (Qd.Fg HX.out (Ox.out.drewN q2)) hlen;clear hlen;have HOW:=zz how;clear how;go_wp2_with fail
 refine HOW.out.mono ?_;rintro e w5 ⟨y,hyv,rfl,hyo,Qe1,k5⟩;have HY:=zz (And.intro hyv (And.intro hyo Qe1));have J2f:Kp No w4 w5:=k5.of_drewN;clear hyv hyo Qe1 k5;simp only [Y0,Qg];go_wp2_with fail
 refine ⟨Kp.of_no J2f,?_⟩;refine Q4 rfl rfl (λq3=>?_);go_wp2_with fail
 obtain ⟨w6,hw6⟩: ∃W,W=(w5.drewN q3).alloc (.cells (Qg y).toArray 44):=⟨_,rfl⟩;have k6:Kp No w4 w6:=by rw [hw6];exact (J2f.drewN q3).alloc _
 have J5v:Kp No w5 w6:=by rw [hw6];exact (zK.drewN q3).alloc _
 have b6:w6.heap[w5.heap.size]?=some (.cells (Qg y).toArray 44 (0,0)):=by rw [hw6];exact heap_alloc_new (w5.drewN q3) _
 (try rw [show (w5.drewN q3).alloc (.cells #[.int .i64 y.v.m, .int .i64 y.v.c, .int .i64 y.v.o,y.sl, .bool y.v.gone, .int .i64 y.v.ttl] 44)=w6 from hw6.symm])
 have Jal:=J2f.size;have Gb:=zz k6;have Qz5:=zz J5v;have J6e:=zz b6;clear hw6 k6 J5v b6 HOW;refine ⟨Kp.of_no Gb.out,?_⟩;refine Q4 rfl rfl (λq4=>?_)
 have hO:Own (w6.drewN q4) 44 6 (.slice ra n rc) n (R.flatMap Qg):=by
  have h1:=HC.out.own;rw [V0.out] at h1;rw [HN.out] at h1⊢;exact h1.keep ((Ox.out.trans_same Gb.out).drewN q4) λ_ _ x=>x
 have hins:=Q7h (w6.drewN q4) ra n rc p (R.flatMap Qg) hO hpn (by have:=Ds.out;have:=HN.out;omega) (Qfp R) w5.heap.size y 44 J6e.out (λe=>by
  have h1:=HC.out.own.lt w5.heap.size (by rw [V0.out];exact e);have h2:=Ox.out.size;omega)
 have J3j:=zz hins;clear hins hO;go_wp2_with fail
 refine J3j.out.mono ?_;rintro e w7 ⟨a',c',rfl,Qdy,k7,hb7⟩;have J2i:Kp (λk=>(Value.slice ra n rc).ownBlock=some k) w6 w7:=k7.of_drewN;rw [Qcd] at Qdy;have Qjy:=zz (And.intro Qdy hb7);have Q3j:=zz J2i;have kS:Kp (λk=>(Value.slice ra n rc).ownBlock=some k) w4 w7:=(Kp.of_no Gb.out).trans_same J2i;clear Qdy hb7 k7 J2i J3j;go_wp2_with fail
 (try refine ⟨kS,?_⟩)
 repeat (first|refine zA ?_|refine zB ?_|refine zC ?_)
 refine Yc (λn11=>?_);refine Q4 rfl rfl (λn12=>?_);obtain ⟨w8,hw8⟩: ∃W,W=(w7.drewN n11).drewN n12:=⟨_,rfl⟩;have k8:Kp (λk=>(Value.slice ra n rc).ownBlock=some k) w6 w8:=by rw [hw8];exact (Q3j.out.drewN n11).drewN n12
 have Qx1:Kp (λk=>(Value.slice ra n rc).ownBlock=some k) w4 w8:=by rw [hw8];exact (kS.drewN n11).drewN n12
 have Qob:Own w8 44 6 (.slice a' (n+1) c') (n+1) ((R.take p++y::R.drop p).flatMap Qg):=by rw [hw8];exact Qjy.out.1
 rw [<-hw8];have hc8:=f4 w8 Qx1;have Qjm:=g4 w8 Qx1;have Qyd:=Qx1.lt Qqa;have Qtn:=zz Qob;have Kx:=zz k8;have Qtb:=zz Qx1;clear hw8 k8 Qob kS f4 g4 Qsh Qx1;go_wp2_with fail
 intro nr;obtain ⟨w9,Ll⟩: ∃W,W=(w8.setCell ⟨cb,0,none⟩ (.slice a' (n+1) c')).drewN nr:=⟨_,rfl⟩;have k9:Kp (Mer.One cb) w8 w9:=by rw [Ll];exact ((Kp.refl (Mer.One cb) _).setCell (p:=⟨cb,0,none⟩) (.inl (show Mer.One cb cb from rfl)) _).drewN nr
 have Qqf:w8.heap[cb]?=some (.cells #[.slice ra n rc] 203 (0,0)):=by
  have h1:=HC.out.cell;rw [V0.out] at h1;exact Qtb.out.get (Ox.out.get h1 λx=>x) λe=>hne _ e rfl
 have Qvc:w9.heap[cb]?=some (.cells #[.slice a' (n+1) c'] 203 (0,0)):=by
  have:=Qh Qqf 0 (.slice a' (n+1) c');rw [Ll];simpa using this
 rw [<-Ll];have Q0s:=zz k9;have Vj:=zz (And.intro Qqf Qvc);clear Ll k9 Qqf Qvc hc8 Qjm Qyd;go_wp2_with fail
 go_ret
 have hvs:(R.take p++y::R.drop p).map Qd.v=Yd (R.map Qd.v) x.v:=by
  unfold Yd;rw [<-HP.out,List.map_append,List.map_cons,List.map_take,List.map_drop,HY.out.1]
 have hlen:(R.take p++y::R.drop p).length=n+1:=by
  have:=HN.out;rw [List.length_append,List.length_cons,List.length_take,List.length_drop];omega
 have Qgg:Kp (λk=>k=cb\/(Value.slice ra n rc).ownBlock=some k) w4 w9:=(Qtb.out.mono λ_ _ h=> .inr h).trans Q0s.out λi _ e=> .inl e;have Q71: ∀z∈R,z.ok w4:=λz hz=>(HC.out.vals z hz).keep Ox.out λ_ _ x=>x;refine ⟨rfl,⟨cb,a',c',R.take p++y::R.drop p⟩,⟨rfl,hvs,⟨?_,?_,?_⟩,?_,?_,?_⟩⟩
 ·unfold Ja.row;simp only
  rw [hlen];exact Vj.out.2
 ·unfold Ja.row;simp only
  rw [hlen];refine Qtn.out.keep Q0s.out λg hg e=>?_;have e:g=cb:=e;rcases Qjy.out.2 with h1|⟨g',h1,h2⟩
  ·rw [h1] at hg;exact hne g hg e
  ·rw [h1] at hg;injection hg with hg;have h3:w6.heap.size<=g':=h2;have h4:=Gb.out.size;omega
 ·intro z hz
  have hS: ∀g,(g=cb\/(Value.slice ra n rc).ownBlock=some g)-> ∀cur,w4.heap[g]?≠some (.cells cur 5 (0,0)):=λg hg cur hcur=>by
   rcases hg with rfl|hg
   ·have h1:=Ox.out.get HC.out.cell λx=>x;exact Q7 hcur h1 (by decide) rfl
   ·rw [<-V0.out] at hg;obtain ⟨cur',hc'⟩:=(HC.out.own.keep Ox.out λ_ _ x=>x).type g hg;exact Q7 hcur hc' (by decide) rfl
  rcases List.mem_append.1 hz with hz|hz
  ·exact (Q71 z (List.mem_of_mem_take hz)).apart Qgg hS
  ·rcases List.mem_cons.1 hz with rfl|hz
   ·have h1:z.ok w6:=HY.out.2.1.keep Qz5.out λ_ _ x=>x
    have h2:z.ok w8:=h1.apart Kx.out λg hg cur hcur=>by
     have h3:w6.heap[g]?=w4.heap[g]?:=Gb.out.block g (by rw [<-V0.out] at hg;exact Ox.out.lt (HC.out.own.lt g hg)) (λx=>x);rw [h3] at hcur;exact hS g (.inr hg) cur hcur
    exact h2.apart Q0s.out λg hg cur hcur=>by
     have e:g=cb:=hg;rw [e,Vj.out.1] at hcur;injection hcur with hcur;injection hcur with _ ht;exact absurd ht (by decide)
   ·exact (Q71 z (List.mem_of_mem_drop hz)).apart Qgg hS
 ·rw [V0.out];exact (Ox.out.of_no).trans_same Qgg
 ·rw [V0.out];show (Value.slice a' (R.take p++y::R.drop p).length c').ownBlock=_\/_
  rcases Qjy.out.2 with h1|⟨g',h1,h2⟩
  ·exact .inl (by rw [hlen];exact h1)
  ·refine .inr ⟨g',by show (Value.slice a' (R.take p++y::R.drop p).length c').ownBlock=_;rw [hlen];exact h1,?_⟩;have h3:w6.heap.size<=g':=h2;have h4:=Gb.out.size;have h5:=Ox.out.size;omega
 ·intro z hz;rcases List.mem_append.1 hz with hz|hz
  ·exact .inl (List.mem_of_mem_take hz)
  ·rcases List.mem_cons.1 hz with rfl|hz
   ·right
    intro g hg;have h1:=HY.out.2.2 g hg;have h2:w4.heap.size<=g:=h1;have h5:=Ox.out.size;omega
   ·exact .inl (List.mem_of_mem_drop hz)
theorem Qkg (w:World):Calls Tryz.prog 114 #[.slice none 0 0] w λe w'=> ∃b,e= .returned (.tuple #[.pointer (some ⟨b,0,none⟩), .int .i64 0])/\Y7 203 w' ⟨b,none,0,[]⟩/\w.heap.size<=b/\Kp No w w':=by
 go_enter Tryz.func114,Tryz.ntmps114
 go_wp2_with fail
 go_loop [12] (λs=>s= .int .i64 0) (λ_=>0)
 case atStart=>rfl
 case round=>
  obtain rfl:=hrel;go_wp2_with fail
  go_ret2
  refine ⟨w.heap.size,rfl,⟨heap_alloc_new w _,show Own _ 44 6 (.slice none 0 0) 0 [] from Own.nil _ _ _,λx hx=>absurd hx (List.not_mem_nil)⟩,Nat.le_refl _,zK.alloc _⟩
end Go.Proofs.YtgnkmjeoaoongaaGreatDoor
