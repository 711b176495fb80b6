/- store -/
import Derived.Test.YtgnkmjeoaoongaaGreatDoorVd2
import Derived.Test.YtgnkmjeoaoongaaGreatDoorVd5
set_option maxRecDepth 100000
set_option maxHeartbeats 4000000
open List (not_mem_nil length_map getElem_mem length_append length_singleton length_take map_append map_cons map_nil mem_map)
namespace Go.Proofs.YtgnkmjeoaoongaaGreatDoor
open Go.RowKit Go.Mer
theorem Qhn {w:World} {x r y o:Nat} {P:ByteArray} {st:Ja} {la ka:Option Addr} {lc kc:Nat} {cs:Zn} {K:List Qe} (h:Vo w x r y P o st la lc cs ka kc K) (hinv:Inv o st) (hf: ∀p∈cs,p.2.R.length<=1000000) (hcn:cs.length<=1000000) (f t:ByteArray) (t1 t2 most:Int) (ht:t1<=9223372036854775807):
  Calls Tryz.prog 138 #[.pointer (some ⟨x,0,none⟩), .string f, .string t,Xl t1 t2, .int .i64 most] w (Cz w (Y2 st f t t1 t2 most).1 (Y2 st f t t1 t2 most).2):=by
 obtain ⟨w1,hw1⟩: ∃W,W=w.alloc (.cells #[.int .i64 t1, .int .i64 t2] 25):=⟨_,rfl⟩;have k1:Kp No w w1:=by rw [hw1];exact zK.alloc _
 have b1:w1.heap[w.heap.size]?=some (.cells #[.int .i64 t1, .int .i64 t2] 25 (0,0)):=by rw [hw1];exact heap_alloc_new w _
 have hl1:=Q7 b1;have hx1:=k1.lt (Q7 h.cell);obtain ⟨mm,hmm⟩: ∃z,z=st.mm:=⟨_,rfl⟩;obtain ⟨mc,hmc⟩: ∃z,z=st.mc:=⟨_,rfl⟩
 have RX:=zz (show ∀W,Kp No w1 W->W.rangeAt x 6 [.int .i64 mm, .int .i64 mc] from λW hW=>by
  have:=Qg ((h.Q9 (k1.Q0 hW)).cell) 6 2;rw [hmm,hmc];exact this)
 have RT:=zz (show ∀W,Kp No w1 W->W.rangeAt w.heap.size 0 [.int .i64 t1, .int .i64 t2] from λW hW=>by have:=Qg (hW.get b1 λx=>x) 0 2;exact this);obtain ⟨z,hz⟩: ∃z,z=Z6 t1 t2 mm mc:=⟨_,rfl⟩;have hcm:=λW=>Fq t1 t2 mm mc W;have hzs:=(Vf t1 t2 mm mc).2.1;rw [<-hz] at hcm hzs;simp only [Xl] at hcm;have HCM:=zz hcm;have HZ:=zz hzs;have HM:=zz (And.intro hmm hmc);have Yq:=zz k1;have HB1:=zz b1;have HW1:=zz hw1;have H:=zz (And.intro h (And.intro hinv (And.intro hf hcn)));rcases Int.lt_or_le z 0 with hd|hd
 ·have e1:decide (z<0)=true:=decide_eq_true hd;have hlt:Zq t1 t2 st.mm st.mc=true:=by rw [<-hmm,<-hmc];exact HZ.out.1 hd
  rw [Q1i hlt];clear h hf k1 b1 hw1 hinv hcn hd hz hcm hzs hmm hmc hlt;go_enter Tryz.func138,Tryz.ntmps138
  go_upto_region 1 with fail
  rw [<-HW1.out];refine zD No [0,0,0,0,0,2,0] [0,1,2,3,4,5,6] ?_
  (try (apply Qb rfl rfl rfl;(focus (intro W hW;exact Qc 25 _ rfl w.heap.size 0 rfl [.int .i64 t1, .int .i64 t2] _ (RT.out W hW) Tryz.underlying25 rfl (by kernel_rfl)));(focus (go_simp;rfl))))
  repeat (first|refine zA ?_|refine zB ?_|refine zC ?_)
  (try (apply Qb rfl rfl rfl;(focus (intro W hW;exact Qc 25 _ rfl x 6 rfl [.int .i64 mm, .int .i64 mc] _ (RX.out W hW) Tryz.underlying25 rfl (by kernel_rfl)));(focus (go_simp;rfl))))
  repeat (first|refine zA ?_|refine zB ?_|refine zC ?_)
  refine Q8 rfl rfl (λq=>?_);go_wp2_with fail
  refine (HCM.out _).mono ?_;rintro e w2 ⟨rfl,k2⟩;go_wp2_with fail
  (try refine ⟨k2.Qf,?_⟩)
  repeat (first|refine zA ?_|refine zB ?_|refine zC ?_)
  refine Qa (λnq=>?_);have HKB:=zz (k2.Qf.drewN nq);have J9:=zz (Yq.out.Q0 HKB.out);clear k2;go_wp2_with fail
  go_ret2
  exact ⟨none,0,[],rfl,Rd.nil _ _ _,λx hx=>absurd hx not_mem_nil,rfl,J9.out⟩
 ·have e1:decide (z<0)=false:=decide_eq_false (by omega)
  have hlt: ¬Zq t1 t2 st.mm st.mc=true:=λhh=>by
   rw [<-hmm,<-hmc] at hh;have:=HZ.out.2 hh;omega
  rw [Q1h hlt];obtain ⟨n,hn⟩: ∃n,n=cs.length:=⟨_,rfl⟩;have hnb:n<=1000000:=by omega
  have HN:=zz (And.intro hn (show n=st.keys.length from by rw [hn,<-h.Vd];unfold Jp;rw [length_map]));clear h hf k1 b1 hw1 hinv hcn hd hz hcm hzs hmm hmc hlt hn;go_enter Tryz.func138,Tryz.ntmps138
  go_upto_region 1 with fail
  rw [<-HW1.out];refine zD No [0,0,0,0,0,2,0] [0,1,2,3,4,5,6] ?_
  (try (apply Qb rfl rfl rfl;(focus (intro W hW;exact Qc 25 _ rfl w.heap.size 0 rfl [.int .i64 t1, .int .i64 t2] _ (RT.out W hW) Tryz.underlying25 rfl (by kernel_rfl)));(focus (go_simp;rfl))))
  repeat (first|refine zA ?_|refine zB ?_|refine zC ?_)
  (try (apply Qb rfl rfl rfl;(focus (intro W hW;exact Qc 25 _ rfl x 6 rfl [.int .i64 mm, .int .i64 mc] _ (RX.out W hW) Tryz.underlying25 rfl (by kernel_rfl)));(focus (go_simp;rfl))))
  repeat (first|refine zA ?_|refine zB ?_|refine zC ?_)
  refine Q8 rfl rfl (λq=>?_);go_wp2_with fail
  refine (HCM.out _).mono ?_;rintro e w2 ⟨rfl,k2⟩;go_wp2_with fail
  (try refine ⟨k2.Qf,?_⟩)
  repeat (first|refine zA ?_|refine zB ?_|refine zC ?_)
  refine Qa (λnq=>?_);have HKB:=zz (k2.Qf.drewN nq);have J9:=zz (Yq.out.Q0 HKB.out);clear k2;obtain ⟨wb,hwb⟩: ∃W,W=w2.drewN nq:=⟨_,rfl⟩;rw [<-hwb] at J9 HKB⊢;have Hq:=zz (H.out.1.Q9 J9.out)
  have Qzk:=zz (show wb.heap[w.heap.size]?=some (.cells #[.int .i64 t1, .int .i64 t2] 25 (0,0)) from by
   have hh:Kp No w wb:=J9.out;have h1:Kp No w1 wb:=HKB.out;exact h1.get HB1.out λx=>x)
  have HI0:=zz (show Qi1 wb st f t t1 t2 most.toNat 0 none 0 [] wb from ⟨Kp.refl _ _,Own.nil _ _ _,λg hg=>by simp [Value.ownBlock] at hg,λx hx=>absurd hx not_mem_nil,by rw [L9];rfl⟩);clear hwb hl1 hx1;go_wp2_with fail
  go_loopw [12,13] (λv i wr=> ∃(k lo c:Nat) (a:Option Addr) (Q:List Cy),k<=n/\i= .int .i64 (k:Int)/\v= .slice a lo c/\Hid (lo=Q.length)/\Hid (Qi1 wb st f t t1 t2 most.toNat k a c Q wr)) (λ_ i _=>n-(intOf i).toNat)
  case atStart=>exact ⟨0,0,0,none,[],Nat.zero_le _,rfl,rfl,zz rfl,HI0⟩
  case round=>
   clear HI0;obtain ⟨k,lo,c,a,Q,hk,rfl,rfl,Kt,HI⟩:=hrel
   have c5: ∀W,Kp No wr W->W.cell? ⟨x,5,none⟩=some (.slice la n lc):=λW hW=>by
    have:=Hq.out.at_ (HI.out.kp.Q0 hW) 5;rw [HN.out.1];exact this
   have hxl:=HI.out.kp.lt (Q7 Hq.out.cell);have J4k:=HI.out.len.2;have Hr:=c5 wr zK;rcases Nat.lt_or_ge k n with hlt|hge
   ·have Y8:k<st.keys.length:=by have:=HN.out.2;omega
    by_cases hm:(lo:Int)<most
    ·have e2:decide ((lo:Int)<most)=true:=decide_eq_true hm;have Qyp:=zz hm;have hkc:k<cs.length:=by have:=HN.out.1;omega
     obtain ⟨g,off,rfl,l0⟩:=Zb (f:=Xe) (c:=2) Ya (by decide) (Own.rd' Hq.out.row) hkc;obtain ⟨q,hq⟩: ∃q,q=cs[k]:=⟨_,rfl⟩
     have hkq:st.keys[k]=(q.1,q.2.vs):=by
      have h1:(Jp cs)[k]?=some (q.1,q.2.vs):=by
       unfold Jp;rw [List.getElem?_map,List.getElem?_eq_getElem hkc,<-hq];rfl
      rw [Hq.out.Vd] at h1;exact (List.getElem?_eq_some_iff.1 h1).2
     rw [<-hq] at l0;have hqm:q∈cs:=by rw [hq];exact getElem_mem hkc
     obtain ⟨key,hkey⟩: ∃key,key=q.1:=⟨_,rfl⟩;obtain ⟨cb,hcb⟩: ∃cb,cb=q.2.b:=⟨_,rfl⟩;have d0: ∀W,Kp No wr W->W.cell? ⟨g,off+k*2,none⟩=some (.string key):=λW hW=>by rw [hkey];exact l0 W (HI.out.kp.Q0 hW) 0 _ rfl
     have d1: ∀W,Kp No wr W->W.cell? ⟨g,off+k*2+1,none⟩=some (.pointer (some ⟨cb,0,none⟩)):=λW hW=>by rw [hcb];exact l0 W (HI.out.kp.Q0 hW) 1 _ rfl
     have Qsf:=d0 wr zK;have hgl:g<wr.heap.size:=World.block_lt_of_cell? wr _ Qsf;have hkv:Inv o st:=H.out.2.1;have hqi:=(hkv.keys (q.1,q.2.vs) (by rw [<-hkq];exact getElem_mem Y8)).2.2.2;have Q48:=zz (λW (hW:Kp No wr W)=>Q43 W q.2 t1 t2 ht ((Hq.out.Fx.each _ hqm).Q9 (HI.out.kp.Q0 hW)) hqi.1 (H.out.2.2.1 _ hqm) (λv hv=>(hqi.2 v hv).1));rw [<-hcb] at Q48;obtain ⟨og,hog⟩: ∃og,og=Uh q.2.vs t1 t2:=⟨_,rfl⟩;rw [<-hog] at Q48;simp only [Xl] at Q48;obtain ⟨bb,hbb⟩: ∃bb,bb=(!Xp f t key):=⟨_,rfl⟩;have Q6b:=zz (Oa f t key);have Gd:=zz hbb;have HQ:=zz (And.intro hkq (And.intro hqm (And.intro hkey (And.intro hog J4k))));have J6b:=zz (show ∀W,Kp No wr W->W.rangeAt w.heap.size 0 [.int .i64 t1, .int .i64 t2] from λW hW=>by have:=Qg ((HI.out.kp.Q0 hW).get Qzk.out λx=>x) 0 2;exact this);clear hkc hq hkq l0 hqm hkey hcb hkv hqi hog hbb hm;go_upto_region 7 with fail
     go_cut [63] from 38 to 62 (λJi2 wx=>Ji2= .bool bb/\wx=wr)
     case first=>
      cases h1:Op.bytesLess key.toList f.toList with
      |true=>
       obtain rfl:bb=true:=by rw [Gd.out,Q6b.out,h1];rfl
       go_wp2_with fail
       go_meet
       case rel=>exact ⟨rfl,rfl⟩
      |false=>
       by_cases h3:t.toList=[]
       ·have A7:t.toList.isEmpty=true:=by rw [h3];rfl
        obtain rfl:bb=false:=by rw [Gd.out,Q6b.out,h1,A7];rfl
        go_wp2_with fail
        go_meet
        case rel=>exact ⟨rfl,rfl⟩
       ·have A7:t.toList.isEmpty=false:=by rw [Bool.eq_false_iff];exact λhh=>h3 (List.isEmpty_iff.1 hh)
        cases h4:Op.bytesLess key.toList t.toList with
        |false=>
         obtain rfl:bb=true:=by rw [Gd.out,Q6b.out,h1,A7,h4];rfl
         go_wp2_with fail
         go_meet
         case rel=>exact ⟨rfl,rfl⟩
        |true=>
         obtain rfl:bb=false:=by rw [Gd.out,Q6b.out,h1,A7,h4];rfl
         go_wp2_with fail
         go_meet
         case rel=>exact ⟨rfl,rfl⟩
     case rest=>
     obtain ⟨rfl,rfl⟩:=hcut;rename World=>wq;cases hb:bb with
     |true=>
      have HS:=zz (HI.out.skip zK Y8 (.inl (by
       rw [HQ.out.1];refine Iy ?_;have hh:=Gd.out;rw [hb,HQ.out.2.2.1] at hh;simpa using hh.symm)))
      clear c5 Hr d0 d1 Qsf;go_wp2_with fail
      go_roundw
      case rel=>exact ⟨k+1,lo,c,a,Q,hlt,by go_num,rfl,Kt,HS⟩
      case measure=>simp [intOf];omega
     |false=>
      have Oq:=zz (show X4 t1 t2 f t st.keys[k]=og.map λb=>(key,b) from by
       have hh:=Gd.out;rw [hb] at hh;rw [HQ.out.1,Ix (by rw [<-HQ.out.2.2.1];simpa using hh.symm),HQ.out.2.2.1,HQ.out.2.2.2.1])
      go_upto_region 8 with fail
      refine zD No [0,0,0,0,0,0,0,0,0,2,0,0,0,0,0] [0,1,2,3,4,5,6,7,8,9,10,11,12,13,14] ?_;repeat (first|refine zA ?_|refine zB ?_|refine zC ?_)
      (try (apply Qb rfl rfl rfl;(focus (intro W hW;exact Qc 25 _ rfl w.heap.size 0 rfl [.int .i64 t1, .int .i64 t2] _ (J6b.out W hW) Tryz.underlying25 rfl (by kernel_rfl)));(focus (go_simp;rfl))))
      repeat (first|refine zA ?_|refine zB ?_|refine zC ?_)
      refine Q8 rfl rfl (λq=>?_);go_wp2_with fail
      refine (Q48.out _ ((Kp.refl No wq).drewN _)).mono ?_;cases og with
      |none=>
       rintro e w5 ⟨rfl,k5⟩;have Ht:Kp No wq w5:=k5.Qf;go_wp2_with fail
       (try refine ⟨Ht,?_⟩)
       repeat (first|refine zA ?_|refine zB ?_|refine zC ?_)
       refine Qa (λnq=>?_);have HS:=zz (HI.out.skip (Ht.drewN nq) Y8 (.inl (by rw [Oq.out];rfl)));clear k5 Ht c5 Hr d0 d1 Qsf;go_wp2_with fail
       go_roundw
       case rel=>exact ⟨k+1,lo,c,a,Q,hlt,by go_num,rfl,Kt,HS⟩
       case measure=>simp [intOf];omega
      |some l0=>
       rintro e w5 ⟨yv,hym,hyv,rfl,k5⟩;have Ht:Kp No wq w5:=k5.Qf;simp only [Qm.sl];obtain ⟨n5,Q7c⟩: ∃n5,n5=yv.v.val.length:=⟨_,rfl⟩;rw [<-Q7c];have HY:=zz (And.intro hym (And.intro hyv Q7c));clear hym hyv Q7c;go_wp2_with fail
       (try refine ⟨Ht,?_⟩)
       repeat (first|refine zA ?_|refine zB ?_|refine zC ?_)
       refine Qa (λnq=>?_);obtain ⟨w6,hw6⟩: ∃W,W=w5.drewN nq:=⟨_,rfl⟩;have k6:Kp No wq w6:=by rw [hw6];exact Ht.drewN nq
       have Ib:Own w6 5 1 (.slice yv.a n5 yv.cap) n5 (u8s l0):=by
        have h1:=(((Hq.out.Fx.each _ HQ.out.2.1).Q9 (HI.out.kp.Q0 k6)).vals yv HY.out.1);unfold Qm.ok Qm.sl at h1;rw [<-HY.out.2.2,HY.out.2.1] at h1;exact h1
       rw [<-hw6];have hl5:n5=l0.length:=by rw [HY.out.2.2,HY.out.2.1]
       obtain ⟨a9,c9,W9,hrun,Q0f,hk9,Gl⟩:=Og (T:=80) (E:=84) (sz:=2) (bytes:=40) Tryz.underlying80 Q7l (W:=w6) (HI.out.own.keep k6 λ_ _ x=>x) (news:=Qa4 ⟨key,l0,yv.a,yv.cap⟩) (Qe6 _) rfl (cs:= #[.string key, .slice yv.a n5 yv.cap]) (by rw [hl5];rfl) (by have:=HQ.out.2.2.2.2;omega) (by have:=HQ.out.2.2.2.2;omega)
       have hmo:=HI.out.more (x:=⟨key,l0,yv.a,yv.cap⟩) k6 Y8 (by rw [Oq.out];rfl) (by have:=Qyp.out;have:=Kt.out;omega) (by
        show Own w6 _ 1 (.slice yv.a l0.length yv.cap) l0.length (u8s l0)
        rw [<-hl5];exact Ib) Q0f hk9 Gl
       rw [<-Kt.out] at hrun;have Hz:=zz hrun;have Qyq:=zz hmo;have Qyo:=zz (show lo+1=(Q++[(⟨key,l0,yv.a,yv.cap⟩:Cy)]).length by rw [length_append,length_singleton,Kt.out]);have Jip:=c5 w6 k6;have Jiu:=d0 w6 k6;have Jj2:=k6.lt hgl;have hx6:=k6.lt hxl;clear k5 Ht hw6 k6 Ib hrun Q0f hk9 Gl hmo c5 Hr d0 d1 Qsf hl5;go_wp2_with (at_builtin;refine wpList_append_run rfl rfl rfl rfl Hz.out ?_)
       go_roundw
       case rel=>exact ⟨k+1,lo+1,c9,a9,Q++[⟨key,l0,yv.a,yv.cap⟩],hlt,by go_num,rfl,Qyo,Qyq⟩
       case measure=>simp [intOf];omega
    ·have e2:decide ((lo:Int)<most)=false:=decide_eq_false hm
     have HE:=zz (show Cz w (Vm t1 t2 f t most.toNat st.keys) 0 (.returned (.tuple #[.slice a lo c, .int .i64 0])) wr from ⟨a,c,Q,by rw [Kt.out],Own.rd' HI.out.own,λx hx=>Own.rd' (HI.out.vals x hx),by
      rw [HI.out.eq,Qbz (by rw [<-HI.out.len.1,<-Kt.out];omega)],J9.out.Q0 HI.out.kp⟩)
     clear hm c5;go_wp2_with fail
     go_ret2
     exact HE.out
   ·obtain rfl:n=k:=by omega
    clear hge c5
    have HE:=zz (show Cz w (Vm t1 t2 f t most.toNat st.keys) 0 (.returned (.tuple #[.slice a lo c, .int .i64 0])) wr from ⟨a,c,Q,by rw [Kt.out],Own.rd' HI.out.own,λx hx=>Own.rd' (HI.out.vals x hx),by
     rw [HI.out.eq,HN.out.2,Ki],J9.out.Q0 HI.out.kp⟩)
    go_wp2_with fail
    go_ret2
    exact HE.out
theorem Nt (p:Qu->Bool) (m:Nat) (l:List Qu) (r:Qu):((l++[r]).filter p).take m=if p r=true/\((l.filter p).take m).length<m then (l.filter p).take m++[r] else (l.filter p).take m:=by
 rw [List.filter_append,List.filter_cons,List.filter_nil];by_cases h1:p r=true
 ·rw [if_pos h1];by_cases h2:((l.filter p).take m).length<m
  ·rw [if_pos ⟨h1,h2⟩];rw [length_take] at h2;rw [List.take_append,List.take_of_length_le (by omega)];congr 1
   rw [List.take_of_length_le];rw [length_singleton];omega
  ·rw [if_neg (λh=>h2 h.2)];rw [length_take] at h2;rw [List.take_append_of_le_length (by omega)]
 ·rw [if_neg h1,if_neg (λh=>h1 h.1),List.append_nil]
structure Qit (w:World) (K:List Qe) (f:Int) (m:Nat) (k:Nat) (a:Option Addr) (c:Nat) (Ko:List Qe) (wr:World):Prop where
 kp:Kp No w wr
 own:Own wr 46 9 (.slice a Ko.length c) Ko.length (Ko.flatMap recC)
 new: ∀g,(Value.slice a Ko.length c).ownBlock=some g->w.heap.size<=g
 vals: ∀x∈Ko,x.ok wr/\ ∀g,x.sl.ownBlock=some g->w.heap.size<=g
 eq:Ko.map Qe.r=((K.take k).map Qe.r|>.filter λr=>decide (f<=r.seq)).take m
def Qd6 (w:World) (l:List Qu) (e:Ending) (w':World):Prop:=
 ∃(a:Option Addr) (c:Nat) (Ko:List Qe),e= .returned (.slice a Ko.length c)/\Own w' 46 9 (.slice a Ko.length c) Ko.length (Ko.flatMap recC)/\(∀x∈Ko,x.ok w')/\Ko.map Qe.r=l/\Kp No w w'/\(∀g,(Value.slice a Ko.length c).ownBlock=some g->w.heap.size<=g)/\ ∀x∈Ko,∀g,x.sl.ownBlock=some g->w.heap.size<=g
theorem Qit.len {w wr:World} {K:List Qe} {f:Int} {m k:Nat} {a:Option Addr} {c:Nat} {Ko:List Qe} (h:Qit w K f m k a c Ko wr):Ko.length<=k:=by
 have h1:=congrArg List.length h.eq;rw [length_map,length_take] at h1;have h2:=List.length_filter_le (λr:Qu=>decide (f<=r.seq)) ((K.take k).map Qe.r);rw [length_map,length_take] at h2;omega
theorem Qit.skip {w wr W:World} {K:List Qe} {f:Int} {m k:Nat} {a:Option Addr} {c:Nat} {Ko:List Qe} (h:Qit w K f m k a c Ko wr) (hk:Kp No wr W) (hkl:k<K.length) (hn: ¬(f<=K[k].r.seq/\Ko.length<m)):Qit w K f m (k+1) a c Ko W:=by
 refine ⟨h.kp.Q0 hk,h.own.keep hk λ_ _ x=>x,h.new,λx hx=>⟨Qm.ok.keep (h.vals x hx).1 hk λ_ _ x=>x,(h.vals x hx).2⟩,?_⟩;have h1:=congrArg List.length h.eq;rw [length_map] at h1;rw [List.take_succ_eq_append_getElem hkl,map_append,map_cons,map_nil,Nt,if_neg (λhh=>hn ⟨of_decide_eq_true hh.1,by rw [h1];exact hh.2⟩)];exact h.eq
theorem Qit.more {w wr W W':World} {K:List Qe} {f:Int} {m k:Nat} {a a':Option Addr} {c c':Nat} {Ko:List Qe} {x:Qe} (h:Qit w K f m k a c Ko wr) (hk:Kp No wr W) (hkl:k<K.length) (hy:f<=K[k].r.seq/\Ko.length<m) (hx:x.r=K[k].r)
  (hxo:x.ok W) (Jhb: ∀g,x.sl.ownBlock=some g->w.heap.size<=g) (ho:Own W' 46 9 (.slice a' (Ko.length+1) c') (Ko.length+1) (Ko.flatMap recC++recC x)) (hk2:Kp (λg=>(Value.slice a Ko.length c).ownBlock=some g) W W')
  (hb:(Value.slice a' (Ko.length+1) c').ownBlock=(Value.slice a Ko.length c).ownBlock\/ ∃g,(Value.slice a' (Ko.length+1) c').ownBlock=some g/\W.heap.size<=g):Qit w K f m (k+1) a' c' (Ko++[x]) W':=by
 have J2q:=h.kp.Q0 hk
 have hap: ∀g,(Value.slice a Ko.length c).ownBlock=some g-> ∀cur,W.heap[g]?≠some (.cells cur 5 (0,0)):=λg hg cur J5=>by
  obtain ⟨cur',hc'⟩:=(h.own.keep hk λ_ _ x=>x).type g hg;exact Qd J5 hc' (by decide) rfl
 refine ⟨(J2q.trans hk2 λi hi hg=>by have:=h.new i hg;omega),by rw [length_append,length_singleton,List.flatMap_append,List.flatMap_cons,List.flatMap_nil,List.append_nil];exact ho,λg hg=>?_,λy hy'=>?_,?_⟩
 ·rw [length_append,length_singleton] at hg;rcases hb with hb|⟨g',hb,hg'⟩
  ·exact h.new g (by rw [<-hb];exact hg)
  ·rw [hb] at hg;injection hg with hg;have:=J2q.size;omega
 ·rcases List.mem_append.1 hy' with hy'|hy'
  ·exact ⟨Qm.ok.apart (Qm.ok.keep (h.vals y hy').1 hk λ_ _ x=>x) hk2 hap,(h.vals y hy').2⟩
  ·rw [List.mem_singleton] at hy';rw [hy'];exact ⟨Qm.ok.apart hxo hk2 hap,Jhb⟩
 ·have h1:=congrArg List.length h.eq;rw [length_map] at h1;rw [List.take_succ_eq_append_getElem hkl,map_append,map_append,map_cons,map_nil,map_cons,map_nil,Nt,if_pos ⟨decide_eq_true hy.1,by rw [<-h1];exact hy.2⟩,hx,h.eq]
theorem Qgu {w:World} {s d l o m:Nat} {P:ByteArray} {st:Ja} {cs:Zn} {ka:Option Addr} {kc:Nat} {K:List Qe} (h:X6 w s d l P o st m cs ka kc K) (hinv:Inv o st) (f most:Int) (hn:K.length<=1000000):
  Calls Tryz.prog 32 #[.pointer (some ⟨s,0,none⟩), .int .i64 f, .int .i64 most] w (Qd6 w (V6 st f most)):=by
 obtain ⟨n,A2⟩: ∃n,n=K.length:=⟨_,rfl⟩;have c25:w.cell? ⟨s,25,none⟩=some (.slice ka n kc):=by rw [A2];exact h.at_ zK 25
 have hsl:=Q7 h.cell;have hrd:=Own.rd' h.kept.own;have Ky:=zz (show ∀W,Kp No w W->Y1 W ka K from λW hW=>⟨Rd.kp hrd hW,λx hx=>Qe.ok.rd (Qm.ok.keep (h.kept.vals x hx) hW λ_ _ x=>x)⟩);have HI0:=zz (show Qit w K f most.toNat 0 none 0 [] w from ⟨Kp.refl _ _,Own.nil _ _ _,λg hg=>by simp [Value.ownBlock] at hg,λx hx=>absurd hx not_mem_nil,by simp⟩)
 have HIS:=zz (show ∀x∈K,Z4 x.r=true from λx hx=>by
  have hm:x.r∈st.kept:=by rw [h.Ez];exact mem_map.2 ⟨x,hx,rfl⟩
  obtain ⟨i,hi,e⟩:=List.getElem_of_mem hm;rw [<-e];exact (hinv.kept i hi).1)
 have D3:=zz h.Ez;have HN:=zz A2;have hnn:n<=1000000:=by omega
 clear h hinv A2 hrd hn;go_enter Tryz.func32,Tryz.ntmps32
 go_wp2_with fail
 go_loopw [7,17] (λv i wr=> ∃(k lo c:Nat) (a:Option Addr) (Ko:List Qe),k<=n/\i= .int .i64 (k:Int)/\v= .slice a lo c/\Hid (lo=Ko.length)/\Hid (Qit w K f most.toNat k a c Ko wr)) (λ_ i _=>n-(intOf i).toNat)
 case atStart=>exact ⟨0,0,0,none,[],Nat.zero_le _,rfl,rfl,zz rfl,HI0⟩
 case round=>
  obtain ⟨k,lo,c,a,Ko,hk,rfl,rfl,Kt,HI⟩:=hrel;rcases Nat.lt_or_ge k n with hlt|hge
  ·have Y8:k<K.length:=by have:=HN.out;omega
   have hLr:=Ky.out wr HI.out.kp;obtain ⟨g,off,rfl,hgl,hgr⟩:=Jx hLr.1 Y8;have hxi:=HIS.out K[k] (getElem_mem Y8);have hxr:=hLr.2 K[k] (getElem_mem Y8);have hlen:=HI.out.len;obtain ⟨x,hx⟩: ∃x,x=K[k]:=⟨_,rfl⟩;have hsk: ∀W,Kp No wr W-> ¬(f<=x.r.seq/\lo<most.toNat)->Qit w K f most.toNat (k+1) a c Ko W:=λW hW hno=>HI.out.skip hW Y8 (by rw [<-hx,<-Kt.out];exact hno);rw [<-hx] at hgr hxi hxr;have hvl:x.r.v.val.length<=1024:=(Zi.1 (Y9.1 hxi).1).2.2.2.1;have R1:=zz (hgr wr zK);obtain ⟨w1,hw1⟩: ∃W,W=wr.alloc (.cells (recC x).toArray 46):=⟨_,rfl⟩;have k1:Kp No wr w1:=by rw [hw1];exact zK.alloc _
   have b1:w1.heap[wr.heap.size]?=some (.cells (recC x).toArray 46 (0,0)):=by rw [hw1];exact heap_alloc_new wr _
   obtain ⟨p,hpq⟩: ∃p,p=wr.heap.size:=⟨_,rfl⟩;rw [<-hpq] at b1;have HB1:=zz b1;have Yq:=zz k1;have HW1:=zz hw1;have Qf2:=zz hsk;have HX:=zz (And.intro (show ∃h:k<K.length,x=K[k] from ⟨Y8,hx⟩) (And.intro hxr (And.intro hvl hlen)));have Qxg:=zz hpq;have Jfe:w1.cell? ⟨p,1,none⟩=some (.int .i64 x.r.seq):=Q4 b1 1;have hpl:=Q7 b1;have hg3:=hgl;clear Y8 hLr hgr hxi hxr hx hvl hlen k1 b1 hw1 hsk hgl;by_cases q1:f<=x.r.seq
   ·have e1:decide (f<=x.r.seq)=true:=decide_eq_true q1;have Qs7:=zz q1;clear q1;by_cases q2:(lo:Int)<most
    ·have e2:decide ((lo:Int)<most)=true:=decide_eq_true q2;have Qu4:=zz q2;clear q2
     go_upto_region 7 with (first
      |(refine Qj rfl 46 _ rfl g (off+k*9) rfl _ _ R1 Tryz.underlying46 rfl (by kernel_rfl) ?_)
      |(refine Qy rfl 46 _ _ rfl wr.heap.size (by rfl) _ _ _ rfl rfl (by kernel_rfl) (by rfl) (by rfl) ?_))
     rw [<-HW1.out,<-hpq];clear hpq hg3;have J0b:w1.cell? ⟨p,6,none⟩=some (.slice x.a x.r.v.val.length x.cap):=Q4 HB1.out 6;have Qa9:=zz (Dm x.a x.cap x.r.v.val w1.heap.size w1 (Qm.X0 HX.out.2.1 Yq.out).1 (by have:=HX.out.2.2.1;omega));go_wp2_with fail
     refine Qa9.out.mono ?_;rintro e7 w7 ⟨v7,rfl,hown,Ca,Q79⟩;obtain ⟨J2n,a7,c7,rfl,Qkf,Qkg,Qkh⟩:=id hown;have b7:=Ca.get HB1.out λx=>x;have f6:=Qh b7 6;have g6:w7.cell? ⟨p,6,none⟩=some (.slice x.a x.r.v.val.length x.cap):=Q4 b7 6;have J24:=Q7 b7;obtain ⟨wD,hwD⟩: ∃W,W=w7.setCell ⟨p,6,none⟩ (.slice a7 x.r.v.val.length c7):=⟨_,rfl⟩;have kD:Kp (Mer.One p) w7 wD:=by rw [hwD];exact (Kp.refl (Mer.One p) w7).setCell (p:=⟨p,6,none⟩) (.inl (show Mer.One p p from rfl)) _
     have bD:wD.heap[p]?=some (.cells #[.int .i64 x.r.o, .int .i64 x.r.seq, .string x.r.key, .int .i64 x.r.v.m, .int .i64 x.r.v.c, .int .i64 x.r.v.o, .slice a7 x.r.v.val.length c7, .bool x.r.v.gone, .int .i64 x.r.v.ttl] 46 (0,0)):=by
      rw [hwD,Ql b7];rfl
     have Bc:Qe.ok ⟨x.r,a7,c7⟩ wD:=Own.keep hown kD λg hg e=>by
      obtain ⟨cur,J5⟩:=hown.type g hg;exact Qd J5 b7 (by decide) e
     have J8a:Kp No wr wD:=(Yq.out.Q0 Ca).trans kD λi hi e=>by
      have:=Qxg.out;have e:i=p:=e;omega
     have hsz:=HI.out.kp.size;have J8k:=Yq.out.size
     have R5:=zz (show wD.rangeAt p 0 [.int .i64 x.r.o, .int .i64 x.r.seq, .string x.r.key, .int .i64 x.r.v.m, .int .i64 x.r.v.c, .int .i64 x.r.v.o, .slice a7 x.r.v.val.length c7, .bool x.r.v.gone, .int .i64 x.r.v.ttl] from by
      have:=Qg bD 0 9;exact this)
     obtain ⟨a9,c9,W9,hrun,Q0f,hk9,Gl⟩:=Og (T:=26) (E:=46) (sz:=9) (bytes:=96) Tryz.underlying26 Ob (W:=wD) (HI.out.own.keep J8a λ_ _ x=>x) (news:=recC ⟨x.r,a7,c7⟩) (G5 _) rfl (cs:= #[.int .i64 x.r.o, .int .i64 x.r.seq, .string x.r.key, .int .i64 x.r.v.m, .int .i64 x.r.v.c, .int .i64 x.r.v.o, .slice a7 x.r.v.val.length c7, .bool x.r.v.gone, .int .i64 x.r.v.ttl]) rfl (by have:=HX.out.2.2.2;omega) (by have:=HX.out.2.2.2;omega);obtain ⟨Y8,hxk⟩:=HX.out.1
     have hmo:=HI.out.more (x:=⟨x.r,a7,c7⟩) J8a Y8 (by rw [<-hxk,<-Kt.out];exact ⟨Qs7.out,by have:=Qu4.out;omega⟩) (by rw [<-hxk]) Bc (λg hg=>by
      have:=Q79 g hg;omega) Q0f hk9 Gl
     rw [<-Kt.out] at hrun;have Hz:=zz hrun;have Qyq:=zz hmo;have Qyo:=zz (show lo+1=(Ko++[(⟨x.r,a7,c7⟩:Qe)]).length by rw [length_append,length_singleton,Kt.out]);have Qsb:=zz hwD;have Jj6:=Q7 bD;clear J2n Qkf Qkg Qkh hown Ca Q79 kD bD Bc J8a hsz J8k hrun Q0f hk9 Gl Y8 hxk hmo hwD b7 Qa9 J0b Jfe hpl;go_upto_region 9 with fail
     rw [<-Qsb.out];clear f6 g6 J24 Qsb
     go_wp2_with (first
      |(refine Qj rfl 46 _ rfl p 0 rfl _ _ R5 Tryz.underlying46 rfl (by kernel_rfl) ?_)
      |(at_builtin;refine wpList_append_run rfl rfl rfl rfl Hz.out ?_))
     go_roundw
     case rel=>exact ⟨k+1,lo+1,c9,a9,Ko++[⟨x.r,a7,c7⟩],hlt,by go_num,rfl,Qyo,Qyq⟩
     case measure=>simp [intOf];omega
    ·have e2:decide ((lo:Int)<most)=false:=decide_eq_false q2;have Qac:=zz (Qf2.out w1 Yq.out (λhh=>q2 (by omega)));clear q2
     go_upto_region 7 with (first
      |(refine Qj rfl 46 _ rfl g (off+k*9) rfl _ _ R1 Tryz.underlying46 rfl (by kernel_rfl) ?_)
      |(refine Qy rfl 46 _ _ rfl wr.heap.size (by rfl) _ _ _ rfl rfl (by kernel_rfl) (by rfl) (by rfl) ?_))
     rw [<-HW1.out,<-hpq];clear hpq hg3;go_wp2_with fail
     go_roundw
     case rel=>exact ⟨k+1,lo,c,a,Ko,hlt,by go_num,rfl,Kt,Qac⟩
     case measure=>simp [intOf];omega
   ·have e1:decide (f<=x.r.seq)=false:=decide_eq_false q1;have Qac:=zz (Qf2.out w1 Yq.out (λhh=>q1 hh.1));clear q1
    go_upto_region 7 with (first
     |(refine Qj rfl 46 _ rfl g (off+k*9) rfl _ _ R1 Tryz.underlying46 rfl (by kernel_rfl) ?_)
     |(refine Qy rfl 46 _ _ rfl wr.heap.size (by rfl) _ _ _ rfl rfl (by kernel_rfl) (by rfl) (by rfl) ?_))
    rw [<-HW1.out,<-hpq];clear hpq hg3;go_wp2_with fail
    go_roundw
    case rel=>exact ⟨k+1,lo,c,a,Ko,hlt,by go_num,rfl,Kt,Qac⟩
    case measure=>simp [intOf];omega
  ·obtain rfl:n=k:=by omega
   clear hge
   have HE:=zz (show Qd6 w (V6 st f most) (.returned (.slice a lo c)) wr from ⟨a,c,Ko,by rw [Kt.out],HI.out.own,λx hx=>(HI.out.vals x hx).1,by
    rw [HI.out.eq,HN.out,List.take_length,<-D3.out];rfl,HI.out.kp,by rw [<-Kt.out];exact λg hg=>HI.out.new g (by rw [<-Kt.out];exact hg),λx hx=>(HI.out.vals x hx).2⟩)
   go_wp2_with fail
   go_ret
   exact HE.out
theorem Qht {w:World} {x r y o:Nat} {P:ByteArray} {st:Ja} {la ka:Option Addr} {lc kc:Nat} {cs:Zn} {K:List Qe} (h:Vo w x r y P o st la lc cs ka kc K) (hinv:Inv o st) (hf: ∀p∈cs,p.2.R.length<=1000000) (hcn:cs.length<=1000000) (key:ByteArray) (t1 t2:Int) (ht:t1<=9223372036854775807):
  Calls Tryz.prog 140 #[.pointer (some ⟨x,0,none⟩), .string key,Xl t1 t2] w (Qoi w (Eu st key t1 t2)):=by
 obtain ⟨w1,hw1⟩: ∃W,W=w.alloc (.cells #[.int .i64 t1, .int .i64 t2] 25):=⟨_,rfl⟩;have k1:Kp No w w1:=by rw [hw1];exact zK.alloc _
 have b1:w1.heap[w.heap.size]?=some (.cells #[.int .i64 t1, .int .i64 t2] 25 (0,0)):=by rw [hw1];exact heap_alloc_new w _
 have hl1:=Q7 b1;have hx1:=k1.lt (Q7 h.cell);obtain ⟨mm,hmm⟩: ∃z,z=st.mm:=⟨_,rfl⟩;obtain ⟨mc,hmc⟩: ∃z,z=st.mc:=⟨_,rfl⟩
 have RX:=zz (show ∀W,Kp No w1 W->W.rangeAt x 6 [.int .i64 mm, .int .i64 mc] from λW hW=>by
  have:=Qg ((h.Q9 (k1.Q0 hW)).cell) 6 2;rw [hmm,hmc];exact this)
 have RT:=zz (show ∀W,Kp No w1 W->W.rangeAt w.heap.size 0 [.int .i64 t1, .int .i64 t2] from λW hW=>by have:=Qg (hW.get b1 λx=>x) 0 2;exact this);obtain ⟨z,hz⟩: ∃z,z=Z6 t1 t2 mm mc:=⟨_,rfl⟩;have hcm:=λW=>Fq t1 t2 mm mc W;have hzs:=(Vf t1 t2 mm mc).2.1;rw [<-hz] at hcm hzs;simp only [Xl] at hcm;have HCM:=zz hcm;have HZ:=zz hzs;have HM:=zz (And.intro hmm hmc);have Yq:=zz k1;have HB1:=zz b1;have HW1:=zz hw1;have H:=zz (And.intro h (And.intro hinv (And.intro hf hcn)));rcases Int.lt_or_le z 0 with hd|hd
 ·have e1:decide (z<0)=true:=decide_eq_true hd;have Qon:=zz (show Zq t1 t2 st.mm st.mc=true by rw [<-hmm,<-hmc];exact HZ.out.1 hd);clear h hf k1 b1 hw1 hinv hcn hd hz hcm hzs hmm hmc;go_enter Tryz.func140,Tryz.ntmps140
  go_upto_region 1 with fail
  rw [<-HW1.out];refine zD No [0,0,0,0,0,2,0] [0,1,2,3,4,5,6] ?_
  (try (apply Qb rfl rfl rfl;(focus (intro W hW;exact Qc 25 _ rfl w.heap.size 0 rfl [.int .i64 t1, .int .i64 t2] _ (RT.out W hW) Tryz.underlying25 rfl (by kernel_rfl)));(focus (go_simp;rfl))))
  repeat (first|refine zA ?_|refine zB ?_|refine zC ?_)
  (try (apply Qb rfl rfl rfl;(focus (intro W hW;exact Qc 25 _ rfl x 6 rfl [.int .i64 mm, .int .i64 mc] _ (RX.out W hW) Tryz.underlying25 rfl (by kernel_rfl)));(focus (go_simp;rfl))))
  repeat (first|refine zA ?_|refine zB ?_|refine zC ?_)
  refine Q8 rfl rfl (λq=>?_);go_wp2_with fail
  refine (HCM.out _).mono ?_;rintro e w2 ⟨rfl,k2⟩;go_wp2_with fail
  (try refine ⟨k2.Qf,?_⟩)
  repeat (first|refine zA ?_|refine zB ?_|refine zC ?_)
  refine Qa (λnq=>?_);have HKB:=zz (k2.Qf.drewN nq);have J9:=zz (Yq.out.Q0 HKB.out);clear k2;go_wp2_with fail
  exact bodyPost_ret (v:= .tuple #[.slice none 0 0, .bool false, .int .i64 19]) (by simp [results,Tryz.results140,go_sem]) rfl (by rw [Q4n Qon.out];exact ⟨_,_,_,rfl,J9.out,none,0,rfl,Rd.nil _ _ _,rfl,rfl⟩)
 ·have e1:decide (z<0)=false:=decide_eq_false (by omega)
  have Qon:=zz (show Zq t1 t2 st.mm st.mc=false by
   rw [<-hmm,<-hmc,Bool.eq_false_iff]
   exact λhh=>by
    have:=HZ.out.2 hh;omega)
  clear h hf k1 b1 hw1 hinv hcn hd hz hcm hzs hmm hmc;go_enter Tryz.func140,Tryz.ntmps140
  go_upto_region 1 with fail
  rw [<-HW1.out];refine zD No [0,0,0,0,0,2,0] [0,1,2,3,4,5,6] ?_
  (try (apply Qb rfl rfl rfl;(focus (intro W hW;exact Qc 25 _ rfl w.heap.size 0 rfl [.int .i64 t1, .int .i64 t2] _ (RT.out W hW) Tryz.underlying25 rfl (by kernel_rfl)));(focus (go_simp;rfl))))
  repeat (first|refine zA ?_|refine zB ?_|refine zC ?_)
  (try (apply Qb rfl rfl rfl;(focus (intro W hW;exact Qc 25 _ rfl x 6 rfl [.int .i64 mm, .int .i64 mc] _ (RX.out W hW) Tryz.underlying25 rfl (by kernel_rfl)));(focus (go_simp;rfl))))
  repeat (first|refine zA ?_|refine zB ?_|refine zC ?_)
  refine Q8 rfl rfl (λq=>?_);go_wp2_with fail
  refine (HCM.out _).mono ?_;rintro e w2 ⟨rfl,k2⟩;go_wp2_with fail
  (try refine ⟨k2.Qf,?_⟩)
  repeat (first|refine zA ?_|refine zB ?_|refine zC ?_)
  refine Qa (λnq=>?_);have HKB:=zz (k2.Qf.drewN nq);have J9:=zz (Yq.out.Q0 HKB.out);clear k2;obtain ⟨wb,hwb⟩: ∃W,W=w2.drewN nq:=⟨_,rfl⟩;rw [<-hwb] at J9 HKB⊢;have Hq:=zz (H.out.1.Q9 J9.out);have Qzk:=zz (show wb.heap[w.heap.size]?=some (.cells #[.int .i64 t1, .int .i64 t2] 25 (0,0)) from HKB.out.get HB1.out λx=>x);have Jab:=zz (Q9q Hq.out H.out.2.1.sorted H.out.2.2.2 key);clear hwb hl1 hx1;go_wp2_with fail
  refine Jab.out.mono ?_;rintro e w3 ⟨i,b,rfl,hsp,k3⟩;have Mp:=zz hsp;have Qo3:=zz (Hq.out.Q9 k3);have HT3:=zz (k3.get Qzk.out λx=>x);have Zk:=zz (J9.out.Q0 k3);clear k3 hsp Jab;cases b with
  |false=>
   have HN:=zz (show Uh (Qw st.keys key) t1 t2=none from by
    have h1:Qs st.keys key=none:=Xu (by
     rw [<-Qo3.out.Vd,Vu];intro hm;obtain ⟨p,hp,he⟩:=mem_map.1 hm;rw [<-List.take_append_drop i cs] at hp;rcases List.mem_append.1 hp with hp|hp
     ·have:=Mp.out.lo p hp;rw [he] at this;exact Jr _ this
     ·have:=Mp.out.no rfl p hp;rw [he] at this;exact Jr _ this)
    unfold Qw;rw [h1];rfl)
   go_wp2_with fail
   exact bodyPost_ret (v:= .tuple #[.slice none 0 0, .bool false, .int .i64 0]) (by simp [results,Tryz.results140,go_sem]) rfl (by rw [I7 (by rw [Qon.out];decide),HN.out];exact ⟨_,_,_,rfl,Zk.out,none,0,rfl,Rd.nil _ _ _,rfl,rfl⟩)
  |true=>
   obtain ⟨hi,hki⟩:=Mp.out.yes rfl;obtain ⟨g,off,hae,l0⟩:=Zb (f:=Xe) (c:=2) Ya (by decide) (Own.rd' Qo3.out.row) hi;obtain ⟨q,hq⟩: ∃q,q=cs[i]:=⟨_,rfl⟩;rw [<-hq] at hki l0;have hqm:q∈cs:=by rw [hq];exact getElem_mem hi
   have J7s:(q.1,q.2.vs)∈st.keys:=by rw [<-Qo3.out.Vd];exact mem_map.2 ⟨q,hqm,rfl⟩
   have hch:Qw st.keys key=q.2.vs:=by
    have hso:=H.out.2.1.sorted;unfold Qw;rw [<-hki,Xc (Vw hso) J7s];rfl
   have hqi:=(H.out.2.1.keys _ J7s).2.2.2;obtain ⟨cb,hcb⟩: ∃cb,cb=q.2.b:=⟨_,rfl⟩;obtain ⟨n,hn⟩: ∃n,n=cs.length:=⟨_,rfl⟩
   have c5: ∀W,Kp No w3 W->W.cell? ⟨x,5,none⟩=some (.slice (some ⟨g,off,none⟩) n lc):=λW hW=>by
    have:=Qo3.out.at_ hW 5;rw [hn,<-hae];exact this
   have d1: ∀W,Kp No w3 W->W.cell? ⟨g,off+i*2+1,none⟩=some (.pointer (some ⟨cb,0,none⟩)):=λW hW=>by rw [hcb];exact l0 W hW 1 _ rfl
   have hgl:g<w3.heap.size:=World.block_lt_of_cell? w3 _ (d1 w3 zK);have hxl:=Q7 Qo3.out.cell;have hin:i<n:=by omega
   have hib:n<=1000000:=by have:=H.out.2.2.2;omega
   have J6b:=zz (show ∀W,Kp No w3 W->W.rangeAt w.heap.size 0 [.int .i64 t1, .int .i64 t2] from λW hW=>by have:=Qg (hW.get HT3.out λx=>x) 0 2;exact this);have Q48:=zz (λW (hW:Kp No w3 W)=>Q43 W q.2 t1 t2 ht ((Qo3.out.Fx.each _ hqm).Q9 hW) hqi.1 (H.out.2.2.1 _ hqm) (λv hv=>(hqi.2 v hv).1));rw [<-hcb] at Q48;obtain ⟨og,hog⟩: ∃og,og=Uh q.2.vs t1 t2:=⟨_,rfl⟩;rw [<-hog] at Q48;simp only [Xl] at Q48;have Qey:=zz (show Uh (Qw st.keys key) t1 t2=og from by rw [hch,hog]);have Je7:=zz hqm;have htl:=Q7 HT3.out;clear hi hki l0 hq hqm J7s hch hqi hcb hn hog hae;go_upto_region 6 with fail
   refine zD No [0,0,0,0,0,0,0,0,0,2,0,0,0,0,0] [0,1,2,3,4,5,6,7,8,9,10,11,12,13,14] ?_;repeat (first|refine zA ?_|refine zB ?_|refine zC ?_)
   (try (apply Qb rfl rfl rfl;(focus (intro W hW;exact Qc 25 _ rfl w.heap.size 0 rfl [.int .i64 t1, .int .i64 t2] _ (J6b.out W hW) Tryz.underlying25 rfl (by kernel_rfl)));(focus (go_simp;rfl))))
   repeat (first|refine zA ?_|refine zB ?_|refine zC ?_)
   refine Q8 rfl rfl (λq=>?_);go_wp2_with fail
   refine (Q48.out _ ((Kp.refl No w3).drewN _)).mono ?_;cases og with
   |none=>
    rintro e w5 ⟨rfl,k5⟩;have Ht:Kp No w3 w5:=k5.Qf;go_wp2_with fail
    (try refine ⟨Ht,?_⟩)
    repeat (first|refine zA ?_|refine zB ?_|refine zC ?_)
    refine Qa (λnq=>?_);have Vb:=zz (Zk.out.Q0 (Ht.drewN nq));clear k5 Ht c5 d1;go_wp2_with fail
    exact bodyPost_ret (v:= .tuple #[.slice none 0 0, .bool false, .int .i64 0]) (by simp [results,Tryz.results140,go_sem]) rfl (by rw [I7 (by rw [Qon.out];decide),Qey.out];exact ⟨_,_,_,rfl,Vb.out,none,0,rfl,Rd.nil _ _ _,rfl,rfl⟩)
   |some l0=>
    rintro e w5 ⟨yv,hym,hyv,rfl,k5⟩;have Ht:Kp No w3 w5:=k5.Qf;simp only [Qm.sl];obtain ⟨n5,Q7c⟩: ∃n5,n5=yv.v.val.length:=⟨_,rfl⟩;rw [<-Q7c];have HY:=zz (And.intro hym (And.intro hyv Q7c));clear hym hyv Q7c;go_wp2_with fail
    (try refine ⟨Ht,?_⟩)
    repeat (first|refine zA ?_|refine zB ?_|refine zC ?_)
    refine Qa (λnq=>?_);have Vb:=zz (Zk.out.Q0 (Ht.drewN nq))
    have Jea:=zz (show Rd (w5.drewN nq) (w5.drewN nq).heap.size yv.a (u8s l0) from by
     have h1:=(((Qo3.out.Fx.each _ Je7.out).Q9 (Ht.drewN nq)).vals yv HY.out.1);have h2:=(Qm.ok.rd h1).1;rw [HY.out.2.1] at h2;exact h2)
    clear k5 Ht c5 d1;go_wp2_with fail
    exact bodyPost_ret (v:= .tuple #[.slice yv.a n5 yv.cap, .bool true, .int .i64 0]) (by simp [results,Tryz.results140,go_sem]) rfl (by rw [I7 (by rw [Qon.out];decide),Qey.out];exact ⟨_,_,_,rfl,Vb.out,yv.a,yv.cap,by rw [HY.out.2.2,HY.out.2.1];rfl,Jea.out,rfl,rfl⟩)
theorem Qat (w:World) (s:Nat):Calls Tryz.prog 37 #[.pointer (some ⟨s,0,none⟩), .int .i64 (-1)] w λe w'=>e= .returned (.tuple #[.int .i64 0, .agg #[.int .i64 0, .int .i64 0]])/\Kp No w w':=by
 obtain ⟨w1,hw1⟩: ∃W,W=w.alloc (.cells #[.int .i64 0, .int .i64 0] 25):=⟨_,rfl⟩;obtain ⟨b,hb⟩: ∃b,b=w.heap.size:=⟨_,rfl⟩;have k1:Kp No w w1:=by rw [hw1];exact zK.alloc _
 have b1:w1.heap[b]?=some (.cells #[.int .i64 0, .int .i64 0] 25 (0,0)):=by rw [hw1,hb];exact heap_alloc_new w _
 have c0:w1.cell? ⟨b,0,none⟩=some (.int .i64 0):=Q4 b1 0;have c1:w1.cell? ⟨b,1,none⟩=some (.int .i64 0):=Q4 b1 1;have f0:=Qh b1 0;have f1:=Qh b1 1;have lb:=Q7 b1;have HB:=zz (And.intro hb (And.intro hw1 (And.intro k1 b1)));clear hb hw1 k1 b1;go_enter Tryz.func37,Tryz.ntmps37
 go_upto_region 1 with fail
 rw [<-HB.out.2.1,<-HB.out.1];go_wp2_with fail
 obtain ⟨wz,hwz⟩: ∃W,W=(w1.setCell ⟨b,0,none⟩ (.int .i64 0)).setCell ⟨b,1,none⟩ (.int .i64 0):=⟨_,rfl⟩
 have bz:wz.heap[b]?=some (.cells #[.int .i64 0, .int .i64 0] 25 (0,0)):=by
  rw [hwz,Ql (Ql HB.out.2.2.2 0 _) 1 _];rfl
 have y0:wz.cell? ⟨b,0,none⟩=some (.int .i64 0):=Q4 bz 0;have y1:wz.cell? ⟨b,1,none⟩=some (.int .i64 0):=Q4 bz 1
 have hk:Kp No w wz:=by
  have hbw:=HB.out.1;rw [hwz];exact (HB.out.2.2.1.setCell (p:=⟨b,0,none⟩) (.inr (by show w.heap.size<=b;omega)) _).setCell (p:=⟨b,1,none⟩) (.inr (by show w.heap.size<=b;omega)) _
 rw [<-hwz];exact bodyPost_ret (v:= .tuple #[.int .i64 0, .agg #[.int .i64 0, .int .i64 0]]) (by simp [results,Tryz.results37,go_sem,y0,y1]) rfl ⟨rfl,hk⟩
theorem Qas (w:World) (s:Nat):Calls Tryz.prog 37 #[.pointer (some ⟨s,0,none⟩), .int .i64 5] w λe w'=>e= .returned (.tuple #[.int .i64 0, .agg #[.int .i64 0, .int .i64 0]])/\Kp No w w':=by
 obtain ⟨w1,hw1⟩: ∃W,W=w.alloc (.cells #[.int .i64 0, .int .i64 0] 25):=⟨_,rfl⟩;obtain ⟨b,hb⟩: ∃b,b=w.heap.size:=⟨_,rfl⟩;have k1:Kp No w w1:=by rw [hw1];exact zK.alloc _
 have b1:w1.heap[b]?=some (.cells #[.int .i64 0, .int .i64 0] 25 (0,0)):=by rw [hw1,hb];exact heap_alloc_new w _
 have c0:w1.cell? ⟨b,0,none⟩=some (.int .i64 0):=Q4 b1 0;have c1:w1.cell? ⟨b,1,none⟩=some (.int .i64 0):=Q4 b1 1;have f0:=Qh b1 0;have f1:=Qh b1 1;have lb:=Q7 b1;have HB:=zz (And.intro hb (And.intro hw1 (And.intro k1 b1)));clear hb hw1 k1 b1;go_enter Tryz.func37,Tryz.ntmps37
 go_upto_region 1 with fail
 rw [<-HB.out.2.1,<-HB.out.1];go_wp2_with fail
 obtain ⟨wz,hwz⟩: ∃W,W=(w1.setCell ⟨b,0,none⟩ (.int .i64 0)).setCell ⟨b,1,none⟩ (.int .i64 0):=⟨_,rfl⟩
 have bz:wz.heap[b]?=some (.cells #[.int .i64 0, .int .i64 0] 25 (0,0)):=by
  rw [hwz,Ql (Ql HB.out.2.2.2 0 _) 1 _];rfl
 have y0:wz.cell? ⟨b,0,none⟩=some (.int .i64 0):=Q4 bz 0;have y1:wz.cell? ⟨b,1,none⟩=some (.int .i64 0):=Q4 bz 1
 have hk:Kp No w wz:=by
  have hbw:=HB.out.1;rw [hwz];exact (HB.out.2.2.1.setCell (p:=⟨b,0,none⟩) (.inr (by show w.heap.size<=b;omega)) _).setCell (p:=⟨b,1,none⟩) (.inr (by show w.heap.size<=b;omega)) _
 rw [<-hwz];exact bodyPost_ret (v:= .tuple #[.int .i64 0, .agg #[.int .i64 0, .int .i64 0]]) (by simp [results,Tryz.results37,go_sem,y0,y1]) rfl ⟨rfl,hk⟩
theorem Q9n (w:World) (s:Nat):Calls Tryz.prog 22 #[.pointer (some ⟨s,0,none⟩), .int .i64 (-1)] w λe w'=>e= .returned (.tuple #[.int .i64 0, .agg #[.int .i64 0, .int .i64 0]])/\Kp No w w':=by
 obtain ⟨w1,hw1⟩: ∃W,W=w.alloc (.cells #[.int .i64 0, .int .i64 0] 25):=⟨_,rfl⟩;obtain ⟨b,hb⟩: ∃b,b=w.heap.size:=⟨_,rfl⟩;have k1:Kp No w w1:=by rw [hw1];exact zK.alloc _
 have b1:w1.heap[b]?=some (.cells #[.int .i64 0, .int .i64 0] 25 (0,0)):=by rw [hw1,hb];exact heap_alloc_new w _
 have c0:w1.cell? ⟨b,0,none⟩=some (.int .i64 0):=Q4 b1 0;have c1:w1.cell? ⟨b,1,none⟩=some (.int .i64 0):=Q4 b1 1;have f0:=Qh b1 0;have f1:=Qh b1 1;have lb:=Q7 b1;have HB:=zz (And.intro hb (And.intro hw1 (And.intro k1 b1)));clear hb hw1 k1 b1;go_enter Tryz.func22,Tryz.ntmps22
 go_upto_region 1 with fail
 rw [<-HB.out.2.1,<-HB.out.1];go_wp2_with fail
 obtain ⟨wz,hwz⟩: ∃W,W=(w1.setCell ⟨b,0,none⟩ (.int .i64 0)).setCell ⟨b,1,none⟩ (.int .i64 0):=⟨_,rfl⟩
 have bz:wz.heap[b]?=some (.cells #[.int .i64 0, .int .i64 0] 25 (0,0)):=by
  rw [hwz,Ql (Ql HB.out.2.2.2 0 _) 1 _];rfl
 have y0:wz.cell? ⟨b,0,none⟩=some (.int .i64 0):=Q4 bz 0;have y1:wz.cell? ⟨b,1,none⟩=some (.int .i64 0):=Q4 bz 1
 have hk:Kp No w wz:=by
  have hbw:=HB.out.1;rw [hwz];exact (HB.out.2.2.1.setCell (p:=⟨b,0,none⟩) (.inr (by show w.heap.size<=b;omega)) _).setCell (p:=⟨b,1,none⟩) (.inr (by show w.heap.size<=b;omega)) _
 rw [<-hwz];exact bodyPost_ret (v:= .tuple #[.int .i64 0, .agg #[.int .i64 0, .int .i64 0]]) (by simp [results,Tryz.results22,go_sem,y0,y1]) rfl ⟨rfl,hk⟩
theorem Q9m (w:World) (s:Nat):Calls Tryz.prog 22 #[.pointer (some ⟨s,0,none⟩), .int .i64 5] w λe w'=>e= .returned (.tuple #[.int .i64 0, .agg #[.int .i64 0, .int .i64 0]])/\Kp No w w':=by
 obtain ⟨w1,hw1⟩: ∃W,W=w.alloc (.cells #[.int .i64 0, .int .i64 0] 25):=⟨_,rfl⟩;obtain ⟨b,hb⟩: ∃b,b=w.heap.size:=⟨_,rfl⟩;have k1:Kp No w w1:=by rw [hw1];exact zK.alloc _
 have b1:w1.heap[b]?=some (.cells #[.int .i64 0, .int .i64 0] 25 (0,0)):=by rw [hw1,hb];exact heap_alloc_new w _
 have c0:w1.cell? ⟨b,0,none⟩=some (.int .i64 0):=Q4 b1 0;have c1:w1.cell? ⟨b,1,none⟩=some (.int .i64 0):=Q4 b1 1;have f0:=Qh b1 0;have f1:=Qh b1 1;have lb:=Q7 b1;have HB:=zz (And.intro hb (And.intro hw1 (And.intro k1 b1)));clear hb hw1 k1 b1;go_enter Tryz.func22,Tryz.ntmps22
 go_upto_region 1 with fail
 rw [<-HB.out.2.1,<-HB.out.1];go_wp2_with fail
 obtain ⟨wz,hwz⟩: ∃W,W=(w1.setCell ⟨b,0,none⟩ (.int .i64 0)).setCell ⟨b,1,none⟩ (.int .i64 0):=⟨_,rfl⟩
 have bz:wz.heap[b]?=some (.cells #[.int .i64 0, .int .i64 0] 25 (0,0)):=by
  rw [hwz,Ql (Ql HB.out.2.2.2 0 _) 1 _];rfl
 have y0:wz.cell? ⟨b,0,none⟩=some (.int .i64 0):=Q4 bz 0;have y1:wz.cell? ⟨b,1,none⟩=some (.int .i64 0):=Q4 bz 1
 have hk:Kp No w wz:=by
  have hbw:=HB.out.1;rw [hwz];exact (HB.out.2.2.1.setCell (p:=⟨b,0,none⟩) (.inr (by show w.heap.size<=b;omega)) _).setCell (p:=⟨b,1,none⟩) (.inr (by show w.heap.size<=b;omega)) _
 rw [<-hwz];exact bodyPost_ret (v:= .tuple #[.int .i64 0, .agg #[.int .i64 0, .int .i64 0]]) (by simp [results,Tryz.results22,go_sem,y0,y1]) rfl ⟨rfl,hk⟩
end Go.Proofs.YtgnkmjeoaoongaaGreatDoor
