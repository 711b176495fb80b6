/- store -/
import Derived.Test.YtgnkmjeoaoongaaGreatDoorVd9
import Derived.Test.YtgnkmjeoaoongaaGreatDoorVe2
set_option maxRecDepth 100000
set_option maxHeartbeats 4000000
open List (map_append not_mem_nil length_map)
open Nat (zero_le le_trans)
namespace Go.Proofs.YtgnkmjeoaoongaaGreatDoor
open Go.RowKit Go.Mer
theorem Qhp {w:World} {x r y o:Nat} {P:ByteArray} {st:Ja} {la ka:Option Addr} {lc kc:Nat} {cs:Zn} {K:List Qe} (h:Vo w x r y P o st la lc cs ka kc K) (hcn:cs.length<=1000000) (hm:Z7 st<=1000000000):
  Calls Tryz.prog 86 #[.pointer (some ⟨x,0,none⟩)] w λe w'=>e= .returned (.int .i64 (Z7 st:Int))/\w=w':=by
 obtain ⟨n,hn⟩: ∃n,n=cs.length:=⟨_,rfl⟩
 have hl:Z7 st=((cs.map λp=>p.2.R.length)).sum:=by
  rw [Qe2,<-h.Vd];unfold Q3o Jp;rw [List.map_map];congr 1
  exact List.map_congr_left λp _=>by simp [Zs.vs]
 have hp: ∀k,((cs.take k).map λp=>p.2.R.length).sum<=Z7 st:=λk=>by
  rw [hl];conv=>rhs;rw [<-List.take_append_drop k cs]
  rw [map_append,List.sum_append];omega
 have c5:w.cell? ⟨x,5,none⟩=some (.slice la n lc):=by rw [hn];exact h.at_ zK 5
 have hxl:=Q7 h.cell;have hnb:n<=1000000:=by omega
 obtain ⟨M,hM⟩: ∃M,M=Z7 st:=⟨_,rfl⟩;rw [<-hM] at hl hp hm⊢;have H:=zz (And.intro h (And.intro hn (And.intro hl hp)));clear h hcn hn hl hp hM;go_enter Tryz.func86,Tryz.ntmps86
 go_wp2_with fail
 go_loop [3,4] (λv i=> ∃k s:Nat,k<=n/\i= .int .i64 (k:Int)/\v= .int .i64 (s:Int)/\s<=M/\Hid (s=((cs.take k).map λp=>p.2.R.length).sum)) (λ_ i=>n-(intOf i).toNat)
 case atStart=>exact ⟨0,0,zero_le _,rfl,rfl,zero_le _,zz rfl⟩
 case round=>
  obtain ⟨k,s,hk,rfl,rfl,hs,HS⟩:=hrel;rcases Nat.lt_or_ge k n with hlt|hge
  ·have hkc:k<cs.length:=by have:=H.out.2.1;omega
   obtain ⟨g,off,rfl,l0⟩:=Zb (f:=Xe) (c:=2) Ya (by decide) (Own.rd' H.out.1.row) hkc
   have hst:((cs.take (k+1)).map λp=>p.2.R.length).sum=s+cs[k].2.R.length:=by
    rw [List.take_succ_eq_append_getElem hkc,map_append,List.sum_append,HS.out];simp
   have hle:=H.out.2.2.2 (k+1);have hch:=H.out.1.Fx.each _ (List.getElem_mem hkc);obtain ⟨q,hq⟩: ∃q,q=cs[k]:=⟨_,rfl⟩;rw [<-hq] at l0 hst hch;have d1:=l0 w zK 1 _ rfl;have hgl:g<w.heap.size:=World.block_lt_of_cell? w _ d1;obtain ⟨cb,hcb⟩: ∃cb,cb=q.2.b:=⟨_,rfl⟩;obtain ⟨m,hm2⟩: ∃m,m=q.2.R.length:=⟨_,rfl⟩;have d2:w.cell? ⟨g,off+k*2+1,none⟩=some (.pointer (some ⟨cb,0,none⟩)):=by rw [hcb];exact d1
   have d3:w.cell? ⟨cb,0,none⟩=some (.slice q.2.ra m q.2.rc):=by rw [hcb,hm2];exact hch.cells.1 w zK
   have hbl:cb<w.heap.size:=by rw [hcb];exact Q7 hch.cell
   rw [<-hm2] at hst;rw [hst] at hle;have HST:=zz hst.symm;clear l0 d1 hst hch hq hcb hm2 hkc;go_wp2_with fail
   go_round
   case rel=>exact ⟨k+1,s+m,hlt,by go_num,by go_num,hle,HST⟩
   case measure=>simp [intOf];omega
  ·obtain rfl:n=k:=by omega
   have he:s=M:=by rw [HS.out,H.out.2.2.1,H.out.2.1,List.take_length]
   subst he;clear hge;go_wp2_with fail
   go_ret
   exact ⟨rfl,rfl⟩
theorem Qg1 {p:Qu->Bool} {m:Nat} {l l2:List Qu} (h:m<=((l.filter p).take m).length):((l++l2).filter p).take m=(l.filter p).take m:=by
 rw [List.length_take] at h;rw [List.filter_append,List.take_append_of_le_length (by omega)]
structure J48 (w:World) (K:List Qe) (f:Int) (m k:Nat) (v:Value) (n:Nat) (Ko:List Qe) (wr:World):Prop where
 row:Jd 46 9 recC w wr v n Ko
 vals: ∀x∈Ko,x∈K
 eq:Ko.map Qe.r=(((K.take k).map Qe.r).filter λr=>decide (f<=r.seq)).take m
def Q2y (w:World) (l:List Qu) (e:Ending) (w':World):Prop:=
 ∃(a:Option Addr) (c:Nat) (Ko:List Qe),e= .returned (.slice a Ko.length c)/\Y1 w' a Ko/\Ko.map Qe.r=l/\Kp No w w'
theorem Q5y {w:World} {x r y o:Nat} {P:ByteArray} {st:Ja} {la ka:Option Addr} {lc kc:Nat} {cs:Zn} {K:List Qe} (h:Vo w x r y P o st la lc cs ka kc K) (f most:Int) (hn:K.length<=1000000):
  Calls Tryz.prog 87 #[.pointer (some ⟨x,0,none⟩), .int .i64 f, .int .i64 most] w (Q2y w (V6 st f most)):=by
 obtain ⟨n,A2⟩: ∃n,n=K.length:=⟨_,rfl⟩;have hnn:n<=1000000:=by omega
 have hx:=Q7 h.cell;have J4z:=zz (show ∀W,Kp No w W->W.cell? ⟨x,23,none⟩=some (.slice ka n kc) from λW hW=>by rw [A2];exact h.at_ hW 23);have hrd:=Own.rd' h.kept.own;have Ky:=zz (show Y1 w ka K from ⟨hrd,λz hz=>Qe.ok.rd (h.kept.vals z hz)⟩);have D3:=zz (And.intro h.Ez A2);have J45:=zz hx;have HI0:=zz (show J48 w K f most.toNat 0 (.slice none 0 0) 0 [] w from ⟨Jd.nil _ _ _ _,λx hx=>absurd hx not_mem_nil,by simp⟩);clear h A2 hrd hn hx;go_enter Tryz.func87,Tryz.ntmps87
 go_wp2_with fail
 go_loopw [7,8] (λv i wr=> ∃(k lo c:Nat) (a:Option Addr) (Ko:List Qe),k<=n/\i= .int .i64 (k:Int)/\v= .slice a lo c/\lo<=k/\Hid (J48 w K f most.toNat k (.slice a lo c) lo Ko wr)) (λ_ i _=>n-(intOf i).toNat)
 case atStart=>exact ⟨0,0,0,none,[],zero_le _,rfl,rfl,Nat.le_refl _,HI0⟩
 case round=>
  clear HI0;obtain ⟨k,lo,c,a,Ko,hk,rfl,rfl,hlk,HI⟩:=hrel;have hkp:=HI.out.row.2.2.2;have c23:=J4z.out wr hkp;have hxl:=hkp.lt J45.out;have hlo:=HI.out.row.1;rcases Nat.lt_or_ge k n with hlt|hge
  ·by_cases hm:(lo:Int)<most
   ·have e2:decide ((lo:Int)<most)=true:=decide_eq_true hm;have HM:=zz (And.intro hm hlo);have Y8:k<K.length:=by have:=D3.out.2;omega
    obtain ⟨g,off,rfl,hgl,hgr⟩:=Jx (Ky.out.kp hkp).1 Y8;have hts:(K.take (k+1)).map Qe.r=(K.take k).map Qe.r++[K[k].r]:=by rw [List.take_succ_eq_append_getElem Y8,map_append];rfl
    have hmem:=List.getElem_mem Y8;obtain ⟨y,hy⟩: ∃y,y=K[k]:=⟨_,rfl⟩;rw [<-hy] at hgr hts hmem;obtain ⟨rr,ya,yc⟩:=y;have c1:wr.cell? ⟨g,off+k*9+1,none⟩=some (.int .i64 rr.seq):=hgr wr zK 1 _ rfl;have HT:=zz (And.intro hts hmem);have R1:=zz (show wr.rangeAt g (off+k*9) [.int .i64 rr.o, .int .i64 rr.seq, .string rr.key, .int .i64 rr.v.m, .int .i64 rr.v.c, .int .i64 rr.v.o, .slice ya rr.v.val.length yc, .bool rr.v.gone, .int .i64 rr.v.ttl] from hgr wr zK);clear hts hmem hy hgr Y8 hm hlo;by_cases hq:f<=rr.seq
    ·have e1:decide (f<=rr.seq)=true:=decide_eq_true hq;obtain ⟨a9,c9,W9,hrun,Q0f,hk9,Gl⟩:=Og (T:=26) (E:=46) (sz:=9) (bytes:=96) Tryz.underlying26 Ob (W:=wr) HI.out.row.2.1 (news:=recC ⟨rr,ya,yc⟩) (G5 _) rfl (cs:= #[.int .i64 rr.o, .int .i64 rr.seq, .string rr.key, .int .i64 rr.v.m, .int .i64 rr.v.c, .int .i64 rr.v.o, .slice ya rr.v.val.length yc, .bool rr.v.gone, .int .i64 rr.v.ttl]) rfl (by omega) (by omega)
     have hnew:J48 w K f most.toNat (k+1) (.slice a9 (lo+1) c9) (lo+1) (Ko++[⟨rr,ya,yc⟩]) W9:=by
      refine ⟨⟨by rw [List.length_append,List.length_singleton,HM.out.2],by rw [List.flatMap_append,List.flatMap_cons,List.flatMap_nil,List.append_nil];exact Q0f,λg' hg'=>?_,hkp.trans hk9 λi hi hs=>by have:=HI.out.row.2.2.1 i hs;omega⟩,λz hz=>?_,?_⟩
      ·rcases Gl with hb|⟨g2,hb,hb2⟩
       ·exact HI.out.row.2.2.1 g' (by rw [<-hb];exact hg')
       ·rw [hb] at hg';injection hg' with hg';have:=hkp.size;omega
      ·rcases List.mem_append.1 hz with hz|hz
       ·exact HI.out.vals z hz
       ·rw [List.mem_singleton.1 hz];exact HT.out.2
      ·have h1:=congrArg List.length HI.out.eq;rw [length_map] at h1;rw [map_append,HT.out.1,Nt,if_pos ⟨decide_eq_true hq,by rw [<-h1,<-HM.out.2];have:=HM.out.1;omega⟩,HI.out.eq];rfl
     have Y4:=zz hnew;have Hz:=zz hrun;clear hq hrun Q0f hk9 Gl hnew hkp
     go_wp2_with (first
      |(refine Qj rfl 46 _ rfl g (off+k*9) rfl _ _ R1 Tryz.underlying46 rfl (by kernel_rfl) ?_)
      |(at_builtin;refine wpList_append_run rfl rfl rfl rfl Hz.out ?_))
     go_roundw
     case rel=>exact ⟨k+1,lo+1,c9,a9,Ko++[⟨rr,ya,yc⟩],hlt,by go_num,rfl,by omega,Y4⟩
     case measure=>simp [intOf];omega
    ·have e1:decide (f<=rr.seq)=false:=decide_eq_false hq;have Y4:=zz (show J48 w K f most.toNat (k+1) (.slice a lo c) lo Ko wr from ⟨HI.out.row,HI.out.vals,by rw [HT.out.1,Nt,if_neg (λhh=>hq (of_decide_eq_true hh.1))];exact HI.out.eq⟩);clear hq hkp;go_wp2_with fail
     go_roundw
     case rel=>exact ⟨k+1,lo,c,a,Ko,hlt,by go_num,rfl,by omega,Y4⟩
     case measure=>simp [intOf];omega
   ·have e2:decide ((lo:Int)<most)=false:=decide_eq_false hm
    have HE:=zz (show Q2y w (V6 st f most) (.returned (.slice a lo c)) wr from ⟨a,c,Ko,by rw [hlo],⟨Own.rd' (m:=lo) HI.out.row.2.1,λz hz=>Qm.X0 (Ky.out.2 z (HI.out.vals z hz)) hkp⟩,by
     rw [HI.out.eq];unfold V6;rw [D3.out.1];conv=>rhs;rw [<-List.take_append_drop k K,map_append]
     rw [Qg1];have h1:=congrArg List.length HI.out.eq;rw [length_map] at h1;omega,hkp⟩)
    clear hm hkp hlo;go_wp2_with fail
    go_ret
    exact HE.out
  ·obtain rfl:n=k:=by omega
   have HE:=zz (show Q2y w (V6 st f most) (.returned (.slice a lo c)) wr from ⟨a,c,Ko,by rw [hlo],⟨Own.rd' (m:=lo) HI.out.row.2.1,λz hz=>Qm.X0 (Ky.out.2 z (HI.out.vals z hz)) hkp⟩,by
    rw [HI.out.eq,D3.out.2,List.take_length];unfold V6;rw [D3.out.1],hkp⟩)
   clear hge hkp hlo;go_wp2_with fail
   go_ret
   exact HE.out
theorem Q5x {w:World} {s r y o:Nat} {P:ByteArray} {st:Ja} {la ka:Option Addr} {lc kc:Nat} {cs:Zn} {K:List Qe} (h:Vo w s r y P o st la lc cs ka kc K) (i:Nat) (hi:i<5):
  Calls Tryz.prog 22 #[.pointer (some ⟨s,0,none⟩), .int .i64 (i:Int)] w λe w'=>e= .returned (.tuple #[.int .i64 (Qn st.of i).seq, .agg #[.int .i64 (Qn st.of i).m, .int .i64 (Qn st.of i).c]])/\Kp No w w':=by
 have d0:decide ((i:Int)<0)=false:=decide_eq_false (by omega);have d1:decide ((5:Int)<=(i:Int))=false:=decide_eq_false (by omega);have d2:decide (5<=i)=false:=decide_eq_false (by omega);obtain ⟨w1,hw1⟩: ∃W,W=w.alloc (.cells #[.int .i64 0, .int .i64 0] 25):=⟨_,rfl⟩;obtain ⟨b,hb⟩: ∃b,b=w.heap.size:=⟨_,rfl⟩;have k1:Kp No w w1:=by rw [hw1];exact zK.alloc _
 have b1:w1.heap[b]?=some (.cells #[.int .i64 0, .int .i64 0] 25 (0,0)):=by rw [hw1,hb];exact heap_alloc_new w _
 have h1:=h.Q9 k1;obtain ⟨sq,Q4w⟩: ∃z,z=(Qn st.of i).seq:=⟨_,rfl⟩;obtain ⟨m0,hm0⟩: ∃z,z=(Qn st.of i).m:=⟨_,rfl⟩;obtain ⟨c0,hc0⟩: ∃z,z=(Qn st.of i).c:=⟨_,rfl⟩;have hg:=U9 st.of hi;rw [<-Q4w,<-hm0,<-hc0] at hg⊢
 have hR: ∀W,Kp No w1 W->W.rangeAt s 8 (Mf st.of):=λW hW=>by
  have:=Qg (h1.Q9 hW).cell 8 15;rwa [Qns] at this
 have g0: ∀W,Kp No w1 W->W.cell? ⟨s,8+i*3,none⟩=some (.int .i64 sq):=λW hW=>hR W hW _ _ hg.1
 have RS:=zz (show ∀W,Kp No w1 W->W.rangeAt s (8+i*3+1) [.int .i64 m0, .int .i64 c0] from λW hW=>by
  intro j u hu;match j,hu with
  |0,hu=>injection hu with hu;subst hu;exact hR W hW _ _ hg.2.1
  |1,hu=>injection hu with hu;subst hu;exact hR W hW _ _ hg.2.2)
 have sl:=Q7 h1.cell;have HB:=zz b1;have HW:=zz (And.intro hw1 hb);have HK:=zz k1;clear h h1 hg hR Q4w hm0 hc0 hw1 hb b1 k1;go_enter Tryz.func22,Tryz.ntmps22
 go_upto_region 3 with fail
 rw [<-HW.out.1,<-HW.out.2];refine Jk (Kp No w1) [0,0,0,0,0,0,0,0,0,0,0,0,0,0,0,2] [0,1,2,3,4,5,6,7,8,9,10,11,12,13,14] 15 (by kernel_rfl) (by kernel_rfl) (λ_ n h=>h.drewN n) zK ?_;repeat (first|refine zA ?_|refine zB ?_|refine zC ?_)
 (try (apply Qb rfl rfl rfl;(focus (intro _ _;go_simp;rw [if_pos (show ((i:Nat):Int)<5 from Int.ofNat_lt.2 hi)]));(focus (go_simp;rfl))))
 repeat (first|refine zA ?_|refine zB ?_|refine zC ?_)
 (try (apply Qb rfl rfl rfl;(focus (intro _ _;go_simp;rw [if_pos (show ((i:Nat):Int)<5 from Int.ofNat_lt.2 hi)]));(focus (go_simp;rfl))))
 repeat (first|refine zA ?_|refine zB ?_|refine zC ?_)
 (try (apply Qb rfl rfl rfl;(focus (intro W hW;exact Qc 25 _ rfl s (8+i*3+1) rfl [.int .i64 m0, .int .i64 c0] _ (RS.out W hW) Tryz.underlying25 rfl (by kernel_rfl)));(focus (go_simp;rfl))))
 repeat (first|refine zA ?_|refine zB ?_|refine zC ?_)
 refine Yu (λn1=>?_);refine Q8 rfl rfl (λn2=>?_);obtain ⟨we,hwe⟩: ∃W,W=World.drewN (World.drewN w1 n1) n2:=⟨_,rfl⟩;have ke:Kp No w1 we:=by rw [hwe];exact ⟨rfl,rfl,rfl,Nat.le_refl _,λ_ _ _=>rfl⟩
 have be:=ke.get HB.out λx=>x;have z0:we.cell? ⟨b,0,none⟩=some (.int .i64 0):=Q4 be 0;have z1:we.cell? ⟨b,1,none⟩=some (.int .i64 0):=Q4 be 1;have f0:=Qh be 0;have f1:=Qh be 1;have lb:=Q7 be;have J55:=zz be;have Hx:=zz (HK.out.Q0 ke);rw [<-hwe];clear hwe ke be;go_wp2_with fail
 intro nr;obtain ⟨wz,hwz⟩: ∃W,W=((we.setCell ⟨b,0,none⟩ (.int .i64 m0)).setCell ⟨b,1,none⟩ (.int .i64 c0)).drewN nr:=⟨_,rfl⟩
 have bz:wz.heap[b]?=some (.cells #[.int .i64 m0, .int .i64 c0] 25 (0,0)):=by
  rw [hwz];show ((we.setCell ⟨b,0,none⟩ (.int .i64 m0)).setCell ⟨b,1,none⟩ (.int .i64 c0)).heap[b]?=_
  rw [Ql (Ql J55.out 0 _) 1 _];rfl
 have y0:wz.cell? ⟨b,0,none⟩=some (.int .i64 m0):=Q4 bz 0;have y1:wz.cell? ⟨b,1,none⟩=some (.int .i64 c0):=Q4 bz 1;have yl:=Q7 bz
 have Lp:=zz (show Kp No w wz by
  have hbw:=HW.out.2;rw [hwz];exact ((Hx.out.setCell (p:=⟨b,0,none⟩) (.inr (by show w.heap.size<=b;omega)) _).setCell (p:=⟨b,1,none⟩) (.inr (by show w.heap.size<=b;omega)) _).drewN nr)
 rw [<-hwz];clear hwz bz z0 z1 f0 f1 lb;go_wp2_with fail
 exact bodyPost_ret (v:= .tuple #[.int .i64 sq, .agg #[.int .i64 m0, .int .i64 c0]]) (by simp [results,Tryz.results22,go_sem,y0,y1]) rfl ⟨rfl,Lp.out⟩
section
variable {w:World} {s d l o m:Nat} {P:ByteArray} {st:Ja} {cs:Zn} {ka:Option Addr} {kc:Nat} {K:List Qe}
theorem B3 (h:X6 w s d l P o st m cs ka kc K) (i:Nat) (hi:i<5):Calls Tryz.prog 37 #[.pointer (some ⟨s,0,none⟩), .int .i64 (i:Int)] w λe w'=>e= .returned (.tuple #[.int .i64 (Qn st.of i).seq,Xl (Qn st.of i).m (Qn st.of i).c])/\Kp No w w':=by
 have d0:decide ((i:Int)<0)=false:=decide_eq_false (by omega);have d1:decide (5<=(i:Int))=false:=decide_eq_false (by omega);have d1':decide (5<=i)=false:=decide_eq_false (by omega);obtain ⟨w1,hw1⟩: ∃W,W=w.alloc (.cells #[.int .i64 0, .int .i64 0] 25):=⟨_,rfl⟩;have k1:Kp No w w1:=by rw [hw1];exact zK.alloc _
 have b1:w1.heap[w.heap.size]?=some (.cells #[.int .i64 0, .int .i64 0] 25 (0,0)):=by rw [hw1];exact heap_alloc_new w _
 obtain ⟨b,hb⟩: ∃b,b=w.heap.size:=⟨_,rfl⟩;rw [<-hb] at b1;have hsb:s≠b:=by have:=Q7 h.cell;omega
 have hR: ∀W,Kp (Mer.One b) w1 W->W.rangeAt s 10 (Mf st.of):=λW hW=>by
  have:=Qg (hW.get (h.Q9 k1).cell λe=>hsb e) 10 15;rwa [Qej] at this
 have g3:=U9 st.of hi;have c0: ∀W,Kp (Mer.One b) w1 W->W.cell? ⟨s,10+i*3,none⟩=some (.int .i64 (Qn st.of i).seq):=λW hW=>hR W hW _ _ g3.1
 have RS:=zz (show ∀W,Kp (Mer.One b) w1 W->W.rangeAt s (10+i*3+1) [.int .i64 (Qn st.of i).m, .int .i64 (Qn st.of i).c] from λW hW=>by
  intro jj v hj;match jj,hj with
  |0,hj=>injection hj with hj;subst hj;exact hR W hW _ _ g3.2.1
  |1,hj=>injection hj with hj;subst hj;exact hR W hW _ _ g3.2.2)
 have HB:=zz b1;have HK:=zz k1;have HW:=zz hw1;have hsl:=Q7 (h.Q9 k1).cell;have J3o:=zz hb;clear h k1 b1 hw1 hR g3;go_enter Tryz.func37,Tryz.ntmps37
 go_upto_region 3 with fail
 rw [<-hb,<-HW.out];clear hb;have hlb:=Q7 HB.out;have hii:((i:Nat):Int)<5:=Int.ofNat_lt.2 hi;refine zD (Mer.One b) [0,0,0,0,0,0,0,0,0,0,0,0,0,0,0,2] [0,1,2,3,4,5,6,7,8,9,10,11,12,13,14,15] ?_;repeat (first|refine zA ?_|refine zB ?_|refine zC ?_)
 apply Qb rfl rfl rfl
 ·intro W hW;exact Qc 25 _ rfl s (10+i*3+1) rfl [.int .i64 (Qn st.of i).m, .int .i64 (Qn st.of i).c] _ (RS.out W hW) Tryz.underlying25 rfl (by kernel_rfl)
 ·(focus (go_simp;rfl))
 repeat (first|refine zA ?_|refine zB ?_|refine zC ?_)
 refine Q8 rfl rfl (λq=>?_);obtain ⟨w2,hw2⟩: ∃W,W=w1.drewN q:=⟨_,rfl⟩;have k2:Kp No w1 w2:=by rw [hw2];exact (Kp.refl No w1).drewN q
 have b2:=k2.get HB.out λx=>x;have y0:w2.cell? ⟨b,0,none⟩=some (.int .i64 0):=Q4 b2 0;have y1:w2.cell? ⟨b,1,none⟩=some (.int .i64 0):=Q4 b2 1;have f0:=Qh b2 0;have f1:=Qh b2 1;have hl2:=Q7 b2;rw [<-hw2];have J9:=zz k2;have HB2:=zz b2;clear hw2 k2 b2;go_wp2_with fail
 obtain ⟨w3,hw3⟩: ∃W,W=(w2.setCell ⟨b,0,none⟩ (.int .i64 (Qn st.of i).m)).setCell ⟨b,1,none⟩ (.int .i64 (Qn st.of i).c):=⟨_,rfl⟩
 have k3:Kp (Mer.One b) w1 w3:=by
  rw [hw3];exact ((Kp.Qx J9.out).setCell (p:=⟨b,0,none⟩) (.inl (show Mer.One b b from rfl)) _).setCell (p:=⟨b,1,none⟩) (.inl (show Mer.One b b from rfl)) _
 have h3:w3.heap[b]?=some (.cells #[.int .i64 (Qn st.of i).m, .int .i64 (Qn st.of i).c] 25 (0,0)):=by
  rw [hw3,Ql (Ql HB2.out 0 _) 1 _];rfl
 rw [<-hw3];refine ⟨k3,?_⟩;refine Qa (λnq=>?_)
 have Zk:=zz (show Kp No w (w3.drewN nq) from ((HK.out.trans (T:=Mer.One b) k3 λj hj e=>by
  have h1:=J3o.out;have e:j=b:=e;omega).drewN nq))
 have t0:(w3.drewN nq).cell? ⟨b,0,none⟩=some (.int .i64 (Qn st.of i).m):=Q4 h3 0;have t1:(w3.drewN nq).cell? ⟨b,1,none⟩=some (.int .i64 (Qn st.of i).c):=Q4 h3 1;have l3:b<(w3.drewN nq).heap.size:=Q7 h3;clear hw3 k3 h3 y0 y1 f0 f1 c0 RS;go_wp2_with fail
 exact bodyPost_ret (v:= .tuple #[.int .i64 (Qn st.of i).seq,Xl (Qn st.of i).m (Qn st.of i).c]) (by simp [results,Tryz.results37,go_sem,Xl,t0,t1]) rfl ⟨rfl,Zk.out⟩
end
theorem Q5l {w w':World} {l:List Qu} {e:Ending} (h:Qd6 w l e w'):Q2y w l e w':=by
 obtain ⟨a,c,Ko,h1,h2,h3,h4,h5,_⟩:=h;exact ⟨a,c,Ko,h1,⟨Own.rd' h2,λx hx=>Qe.ok.rd (h3 x hx)⟩,h4,h5⟩
def Qar (st:Ja) (i:Int):Z1:=if 0<=i/\i<5 then Qn st.of i.toNat else ⟨0,0,0⟩
section
variable {w0 w w':World} {p d s r x o B:Nat} {P:ByteArray} {st st':Ja} {ds ds':Qz} {lg X9:Jf} {H1 H2:Nat->Prop}
theorem Qt.J3l (h:Qt w0 w p d s r x P o st ds lg st' ds' X9 B H1 H2) (hinv:Inv o st') (hB:B<=1000000) (hkn:st'.keys.length<=1000000) (f t:ByteArray) (t1 t2 most:Int) (ht:t1<=9223372036854775807):
  Calls Tryz.prog 138 #[.pointer (some ⟨x,0,none⟩), .string f, .string t,Xl t1 t2, .int .i64 most] w (Cz w (Y2 st' f t t1 t2 most).1 (Y2 st' f t t1 t2 most).2):=by
 obtain ⟨y,la,lc,cs,ka,kc,K,F,G,h1,h2,h3,_⟩:=h.ref;exact Qhn h1.st hinv (λq hq=>le_trans (h2 q hq) hB) (by rw [show cs.length=st'.keys.length from by rw [<-h1.st.Vd];unfold Jp;rw [length_map]];exact hkn) f t t1 t2 most ht
theorem Qt.J6u (h:Qt w0 w p d s r x P o st ds lg st' ds' X9 B H1 H2) (hinv:Inv o st) (hB:B<=1000000) (k:ByteArray) (t1 t2:Int) (ht:t1<=9223372036854775807):
  Calls Tryz.prog 26 #[.pointer (some ⟨s,0,none⟩), .string k,Xl t1 t2] w (Qoi w (Eu st k t1 t2)):=
 (h.get hinv hB k t1 t2 ht).mono λ_ _ hq=>Qps hq
theorem Qt.J3k (h:Qt w0 w p d s r x P o st ds lg st' ds' X9 B H1 H2) (hinv:Inv o st') (hB:B<=1000000) (hkn:st'.keys.length<=1000000) (k:ByteArray) (t1 t2:Int) (ht:t1<=9223372036854775807):
  Calls Tryz.prog 140 #[.pointer (some ⟨x,0,none⟩), .string k,Xl t1 t2] w (Qoi w (Eu st' k t1 t2)):=by
 obtain ⟨y,la,lc,cs,ka,kc,K,F,G,h1,h2,h3,_⟩:=h.ref;exact Qht h1.st hinv (λq hq=>le_trans (h2 q hq) hB) (by rw [show cs.length=st'.keys.length from by rw [<-h1.st.Vd];unfold Jp;rw [length_map]];exact hkn) k t1 t2 ht
theorem Qt.Qlo (h:Qt w0 w p d s r x P o st ds lg st' ds' X9 B H1 H2) (hinv:Inv o st) (hB:B<=1000000) (f most:Int):
  Calls Tryz.prog 32 #[.pointer (some ⟨s,0,none⟩), .int .i64 f, .int .i64 most] w (Qd6 w (V6 st f most)):=by
 obtain ⟨l,m,cs,ka,kc,K,F,G,h1,h2,h3,_⟩:=h.prog;exact Qgu h1.st hinv f most (le_trans h3 hB)
theorem Qt.kept (h:Qt w0 w p d s r x P o st ds lg st' ds' X9 B H1 H2) (hinv:Inv o st) (hB:B<=1000000) (f most:Int):
  Calls Tryz.prog 32 #[.pointer (some ⟨s,0,none⟩), .int .i64 f, .int .i64 most] w (Q2y w (V6 st f most)):=by
 exact (h.Qlo hinv hB f most).mono λ_ _ hq=>Q5l hq
theorem Qt.Qnr (h:Qt w0 w p d s r x P o st ds lg st' ds' X9 B H1 H2) (hB:B<=1000000) (f most:Int):
  Calls Tryz.prog 87 #[.pointer (some ⟨x,0,none⟩), .int .i64 f, .int .i64 most] w (Q2y w (V6 st' f most)):=by
 obtain ⟨y,la,lc,cs,ka,kc,K,F,G,h1,h2,h3,_⟩:=h.ref;exact Q5y h1.st f most (le_trans h3 hB)
theorem Qt.J3m (h:Qt w0 w p d s r x P o st ds lg st' ds' X9 B H1 H2) (hkn:st'.keys.length<=1000000) (hm:Z7 st'<=1000000000):
  Calls Tryz.prog 86 #[.pointer (some ⟨x,0,none⟩)] w λe w'=>e= .returned (.int .i64 (Z7 st':Int))/\w=w':=by
 obtain ⟨y,la,lc,cs,ka,kc,K,F,G,h1,h2,h3,_⟩:=h.ref;exact Qhp h1.st (by rw [show cs.length=st'.keys.length from by rw [<-h1.st.Vd];unfold Jp;rw [length_map]];exact hkn) hm
theorem Qt.mark (h:Qt w0 w p d s r x P o st ds lg st' ds' X9 B H1 H2):Calls Tryz.prog 45 #[.pointer (some ⟨s,0,none⟩)] w λe w'=>e= .returned (Xl st.mm st.mc)/\Kp No w w':=by
 obtain ⟨l,m,cs,ka,kc,K,F,G,h1,h2,_⟩:=h.prog;exact Qm5 h1.st
theorem Qt.applied (h:Qt w0 w p d s r x P o st ds lg st' ds' X9 B H1 H2) (i:Int) (h0: -1<=i) (h5:i<=5):
  Calls Tryz.prog 37 #[.pointer (some ⟨s,0,none⟩), .int .i64 i] w λe w'=>e= .returned (.tuple #[.int .i64 (Qar st i).seq, .agg #[.int .i64 (Qar st i).m, .int .i64 (Qar st i).c]])/\Kp No w w':=by
 obtain ⟨l,m,cs,ka,kc,K,F,G,h1,h2,_⟩:=h.prog;by_cases hi:0<=i/\i<5
 ·have e:Qar st i=Qn st.of i.toNat:=if_pos hi;rw [e];have:=B3 h1.st i.toNat (by omega);rw [show ((i.toNat:Nat):Int)=i from by omega] at this;exact this
 ·have e:Qar st i=⟨0,0,0⟩:=if_neg hi;rw [e];rcases (show i= -1\/i=5 by omega) with rfl|rfl
  ·exact Qat w s
  ·exact Qas w s
theorem Qt.Qnp (h:Qt w0 w p d s r x P o st ds lg st' ds' X9 B H1 H2) (i:Int) (h0: -1<=i) (h5:i<=5):
  Calls Tryz.prog 22 #[.pointer (some ⟨x,0,none⟩), .int .i64 i] w λe w'=>e= .returned (.tuple #[.int .i64 (Qar st' i).seq, .agg #[.int .i64 (Qar st' i).m, .int .i64 (Qar st' i).c]])/\Kp No w w':=by
 obtain ⟨y,la,lc,cs,ka,kc,K,F,G,h1,h2,h3,_⟩:=h.ref;by_cases hi:0<=i/\i<5
 ·have e:Qar st' i=Qn st'.of i.toNat:=if_pos hi;rw [e];have:=Q5x h1.st i.toNat (by omega);rw [show ((i.toNat:Nat):Int)=i from by omega] at this;exact this
 ·have e:Qar st' i=⟨0,0,0⟩:=if_neg hi;rw [e];rcases (show i= -1\/i=5 by omega) with rfl|rfl
  ·exact Q9n w x
  ·exact Q9m w x
end
theorem Qgy {m c:Int} {f t:ByteArray} {M:Nat} {l:List (ByteArray×List Qo)} (h: ∀q∈l,∀v∈q.2,X8 v=true): ∀y∈Vm m c f t M l,y.2.length<=1000000:=by
 intro y hy;rw [Vj] at hy;obtain ⟨q,hq,he⟩:=List.mem_filterMap.1 (List.mem_of_mem_take hy);unfold X4 at he;split at he
 ·obtain ⟨u,hu,rfl⟩:=Option.map_eq_some_iff.1 he;exact Q53 (h q hq) hu
 ·cases he
theorem Q5m {o:Nat} {st:Ja} (hinv:Inv o st) (f t:ByteArray) (m c most:Int): ∀y∈(Y2 st f t m c most).1,y.2.length<=1000000:=by
 unfold Y2;split
 ·intro y hy;exact absurd hy not_mem_nil
 ·exact Qgy λq hq v hv=>((hinv.keys q hq).2.2.2.2 v hv).1
theorem Q94 {st:Ja} (f t:ByteArray) (m c most:Int) (hkn:st.keys.length<=1000000):(Y2 st f t m c most).1.length<=1000000:=by
 unfold Y2;split
 ·exact zero_le _
 ·simp only
  rw [<-Ki];exact le_trans Ci hkn
theorem Qb3 {o:Nat} {st:Ja} (hinv:Inv o st) (k:ByteArray) (m c:Int):((Eu st k m c).1.getD []).length<=1000000:=by
 unfold Eu;split
 ·exact zero_le _
 ·simp only
  cases hg:Uh (Qw st.keys k) m c with
  |none=>exact zero_le _
  |some u=>
   refine Q53 (λv hv=>?_) hg;unfold Qw at hv;cases hk:Qs st.keys k with
   |none=>rw [hk] at hv;exact absurd hv not_mem_nil
   |some vs=>
    rw [hk] at hv;exact ((hinv.keys _ (Jc hk)).2.2.2.2 v hv).1
end Go.Proofs.YtgnkmjeoaoongaaGreatDoor
