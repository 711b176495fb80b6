/-
  SXKey, SXLay0, SXTrims.
-/
import Derived.Test.YtgnkmjeoaoongaaGreatDoorXd6
set_option maxRecDepth 100000
set_option maxHeartbeats 4000000
namespace Go.Proofs.YtgnkmjeoaoongaaGreatDoor
open Go.RowKit Go.Mer
abbrev Dv (cs:Z7):Prop:=cs.Pairwise λx y=>Ug x.1 y.1
structure Mc (cs:Z7) (k:ByteArray) (i:Nat) (b:Bool):Prop where
 le:i<=cs.length
 lo: ∀p∈cs.take i,Ug p.1 k
 yes:b=true-> ∃h:i<cs.length,cs[i].1=k
 no:b=false-> ∀p∈cs.drop i,Ug k p.1
theorem Qhc {cs:Z7} {k:ByteArray} {i:Nat} (hlo: ∀p∈cs.take i,Ug p.1 k) (hi:i<cs.length) (h:cs[i].1=k):Mc cs k i true:=
 ⟨Nat.le_of_lt hi,hlo,λ_=>⟨hi,h⟩,λe=>by cases e⟩
theorem Q57 {cs:Z7} (hs:Dv cs) {k:ByteArray} {i:Nat} (hi:i<=cs.length) (hlo: ∀p∈cs.take i,Ug p.1 k) (h: ∀h:i<cs.length,Ug k cs[i].1):Mc cs k i false:=by
 refine ⟨hi,hlo,λe=>(by cases e),λ_ p hp=>?_⟩;obtain ⟨j,hj,rfl⟩:=List.mem_iff_getElem.1 hp;rw [List.length_drop] at hj;rw [List.getElem_drop];have h0:=h (by omega);rcases Nat.eq_zero_or_pos j with rfl|hp
 ·exact h0
 ·exact U5 h0 (List.pairwise_iff_getElem.1 hs _ _ (by omega) (by omega) (by omega))
theorem Ak {cs:Z7} {l:List (ByteArray×List Qf)} (h:J3 cs=l) (hs:Je l):Dv cs:=by
 rw [<-h] at hs;have h2:(cs.map λp=>(p.1,p.2.vs)).Pairwise (λx y:ByteArray×List Qf=>Ug x.1 y.1):=hs;rw [List.pairwise_map] at h2;exact h2
theorem Q68: ∀(l1:List (ByteArray×List Qf)) {l2:List (ByteArray×List Qf)} {k:ByteArray} (c:List Qf),(∀p∈l1,Ug p.1 k)->(∀p∈l2,Ug k p.1)->Jn (l1++l2) k c=l1++(k,c)::l2
 |[],[],k,c,_,_=>rfl
 |[],x::l2,k,c,_,h2=>by
  have h:=h2 x (List.mem_cons_self ..);rw [List.nil_append,Jn,if_neg (λhh=>J5 _ (U5 hh h)),if_neg (λe=>by rw [e] at h;exact J5 _ h)];rfl
 |x::l1,l2,k,c,h1,h2=>by
  rw [List.cons_append,Jn,if_pos (h1 x (List.mem_cons_self ..)),Q68 l1 c (λp hp=>h1 p (List.mem_cons_of_mem _ hp)) h2];rfl
theorem Q37: ∀(l1:List (ByteArray×List Qf)) {l2:List (ByteArray×List Qf)} {k:ByteArray} (c0 c:List Qf),(∀p∈l1,Ug p.1 k)->Jn (l1++(k,c0)::l2) k c=l1++(k,c)::l2
 |[],l2,k,c0,c,_=>by
  rw [List.nil_append,Jn,if_neg (J5 _),if_pos rfl];rfl
 |x::l1,l2,k,c0,c,h1=>by
  rw [List.cons_append,Jn,if_pos (h1 x (List.mem_cons_self ..)),Q37 l1 c0 c λp hp=>h1 p (List.mem_cons_of_mem _ hp)];rfl
section
variable {w:World} {s r y o:Nat} {P:ByteArray} {st:J7} {la:Option Addr} {lc:Nat} {cs:Z7} {ka:Option Addr} {kc:Nat} {K:List Qa}
theorem Qit (h:Xx w s r y P o st la lc cs ka kc K) (hs:Je st.keys) (hn:cs.length<=1000000) (k:ByteArray):
  Calls Tryz.prog 125 #[.pointer (some ⟨s,0,none⟩), .string k] w λe w'=> ∃(i:Nat) (b:Bool),e= .returned (.tuple #[.int .i64 (i:Int), .bool b])/\Mc cs k i b/\Kp No w w':=by
 obtain ⟨n,U2⟩: ∃n,n=cs.length:=⟨_,rfl⟩;have hrd:=Own.rd' h.row;have Lj:=zz (show ∀W,Kp No w W->W.cell? ⟨s,5,none⟩=some (.slice la n lc)/\s<W.heap.size from λW hW=>⟨by rw [h.at_ hW,U2];rfl,Q3 (hW.get h.cell λx=>x)⟩);have M8:=zz hrd;have HS:=zz (Ak h.Et hs);have HN:=zz U2;have hfew:n<=1000000:=by omega
 clear h hrd hs hn U2;go_enter Tryz.func125,Tryz.ntmps125
 go_wp2_with fail
 rename World=>w0;go_loopw [6] (λi wr=> ∃j:Nat,j<=n/\i= .int .i64 (j:Int)/\Hid (∀f∈cs.take j,Ug f.1 k)/\Hid (Kp No w0 wr)) (λi _=>n-(intOf i).toNat)
 case atStart=>exact ⟨0,Nat.zero_le _,rfl,zz (by simp),zz zK⟩
 case round=>
  obtain ⟨j,hj,rfl,HL,Dp⟩:=hrel;obtain ⟨c1,hrl⟩:=Lj.out _ Dp.out;by_cases hlt:j<n
  ·have Q8d:j<cs.length:=by rw [<-HN.out];exact hlt
   obtain ⟨g,off,rfl,l0⟩:=Ye (f:=Yb) (c:=2) Xd (by decide) M8.out Q8d;have d0:=l0 _ Dp.out 0 _ rfl;rw [Nat.add_zero] at d0;have hgl:g<wr.heap.size:=World.block_lt_of_cell? wr _ d0;have hts:=List.take_succ_eq_append_getElem Q8d;have hyes: ∀hk:cs[j].1=k,(∀p∈cs.take j,Ug p.1 k)->Mc cs k j true:=λhk hlo=>Qhc hlo Q8d hk;have hno: ∀hk:Ug k cs[j].1,(∀p∈cs.take j,Ug p.1 k)->Mc cs k j false:=λhk hlo=>Q57 HS.out (Nat.le_of_lt Q8d) hlo λ_=>hk;obtain ⟨q,hq⟩: ∃q,q=cs[j]:=⟨_,rfl⟩;rw [<-hq] at d0 hts hyes hno;obtain ⟨x,hx⟩: ∃x,x=q.1:=⟨_,rfl⟩;rw [<-hx] at hyes hno;have d1:wr.cell? ⟨g,off+j*2,none⟩=some (.string x):=by rw [hx];exact d0
   clear d0;have HT:=zz hts;have HX:=zz hx;rcases Cd x k with hn|hn|hn
   ·have f1:=Q5c hn
    have HL2:Hid (∀f∈cs.take (j+1),Ug f.1 k):=zz λf hf=>by
     rw [HT.out,List.mem_append,List.mem_singleton] at hf;rcases hf with hf|rfl
     ·exact HL.out f hf
     ·rw [<-HX.out];exact hn
    clear l0 hn hx hq hts hyes hno Q8d;go_wp2_with fail
    go_roundw
    case rel=>exact ⟨j+1,by omega,by go_num,HL2,Dp⟩
    case measure=>simp [intOf];omega
   ·have f1:=Cb (by rw [hn];exact J5 k: ¬Ug x k);have f2:(x.toList==k.toList)=true:=by rw [hn];exact beq_self_eq_true _
    have Ls:=zz (hyes hn HL.out);clear l0 hn hx hq hts hyes hno Q8d;go_wp2_with fail
    refine zE [0,0,0,0,0,1,1,0,0,0,0,0,1,0,0,0,1,0,0,0,0,0] [0,1,2,3,4,5,6,7,8,9,10,11,12,13,14,15,16,17,18,19,20,21] ?_;repeat (first|refine zA ?_|refine zB ?_|refine zC ?_)
    refine Q6 (λnq=>?_);have Qz:=zz (Dp.out.drewN nq);go_wp2_with fail
    go_ret2
    exact ⟨j,true,rfl,Ls.out,Qz.out⟩
   ·have f1:=Cb (λh=>J5 _ (U5 h hn): ¬Ug x k)
    have f2:(x.toList==k.toList)=false:=by
     rw [<-beq_toListBytes];exact beq_false_of_ne (λe=>by rw [e] at hn;exact J5 _ hn)
    have Ls:=zz (hno hn HL.out);clear l0 hn hx hq hts hyes hno Q8d;go_wp2_with fail
    refine zE [0,0,0,0,0,1,1,0,0,0,0,0,1,0,0,0,1,0,0,0,0,0] [0,1,2,3,4,5,6,7,8,9,10,11,12,13,14,15,16,17,18,19,20,21] ?_;repeat (first|refine zA ?_|refine zB ?_|refine zC ?_)
    refine Q6 (λnq=>?_);have Qz:=zz (Dp.out.drewN nq);go_wp2_with fail
    go_ret2
    exact ⟨j,false,rfl,Ls.out,Qz.out⟩
  ·have hjn:j=n:=by omega
   have Ls:=zz (Q57 HS.out (by rw [<-HN.out];exact hj) HL.out (λh=>by have:=HN.out;omega));subst hjn;clear hlt;go_wp2_with fail
   refine zE [0,0,0,0,0,1,1,0,0,0,0,0,1,0,0,0,1,0,0,0,0,0] [0,1,2,3,4,5,6,7,8,9,10,11,12,13,14,15,16,17,18,19,20,21] ?_;repeat (first|refine zA ?_|refine zB ?_|refine zC ?_)
   refine Q6 (λnq=>?_);have Qz:=zz (Dp.out.drewN nq);go_wp2_with fail
   go_ret2
   exact ⟨j,false,rfl,Ls.out,Qz.out⟩
end
theorem Hn (a:Option Addr) (n n' c c':Nat):(Value.slice a n c).ownBlock=(Value.slice a n' c').ownBlock:=by cases a<;>rfl
def Ty (w:World) (t:TypeId) (g:Nat):Prop:= ∃cur,w.heap[g]?=some (.cells cur t (0,0))
theorem Ty.ne {w:World} {t t':TypeId} {g g':Nat} (h:Ty w t g) (h':Ty w t' g') (ht:t≠t'):g≠g':=by
 obtain ⟨c,hc⟩:=h;obtain ⟨c',hc'⟩:=h';exact Q7 hc hc' ht
theorem Xn.perm {t:TypeId} {w:World} {cs cs':Z7} (h:Xn t w cs) (hp:cs.Perm cs'):Xn t w cs':=
 ⟨λp hm=>h.each p (hp.mem_iff.2 hm),(hp.map _).nodup_iff.1 h.C0,(hp.filterMap _).nodup_iff.1 h.rows,(hp.map _).nodup_iff.1 h.keys⟩
theorem B0 {α β:Type} {f g:α->List β}: ∀{l:List α},(∀a∈l,f a=g a)->l.flatMap f=l.flatMap g
 |[],_=>rfl
 |a::l,h=>by rw [List.flatMap_cons,List.flatMap_cons,h a (List.mem_cons_self ..),B0 λb hb=>h b (List.mem_cons_of_mem _ hb)]
theorem Gk {α:Type} (l:List α) (i:Nat) (x:α):(l++[x]).Perm (l.take i++x::l.drop i):=by
 have h1:(l++[x]).Perm (x::l):=List.perm_append_comm;have h2:(l.take i++x::l.drop i).Perm (x::(l.take i++l.drop i)):=List.perm_middle;rw [List.take_append_drop] at h2;exact h1.trans h2.symm
section
variable {w w' w2:World} {cs:Z7} {la ka:Option Addr} {lc kc:Nat} {K:List Qa} {x r y o:Nat} {P:ByteArray} {st:J7} {k:ByteArray} {c c':Ja}
theorem Xx.ty (h:Xx w x r y P o st la lc cs ka kc K):Ty w 64 x/\(∀g,(Value.slice la cs.length lc).ownBlock=some g->Ty w 158 g)/\(∀g,Ej cs g->Ty w 148 g\/Ty w 44 g\/Ty w 5 g)/\(∀g,(Value.slice ka K.length kc).ownBlock=some g->Ty w 46 g)/\ ∀z∈K,∀g,z.sl.ownBlock=some g->Ty w 5 g:=by
 refine ⟨⟨_,h.cell⟩,λg hg=>h.row.type g hg,?_,λg hg=>h.kept.own.type g hg,λz hz g hg=>Own.type (h.kept.vals z hz) g hg⟩;rintro g ⟨p,hp,rfl|hg|⟨z,hz,hg⟩⟩
 ·exact .inl ⟨_,(h.Vl.each p hp).cell⟩
 ·exact .inr (.inl ((h.Vl.each p hp).own.type g hg))
 ·exact .inr (.inr (Own.type ((h.Vl.each p hp).vals z hz) g hg))
theorem I9 (hs:Dv cs) {i:Nat} (hi:i<cs.length) (hk:cs[i].1=k) (hb:c'.b=cs[i].2.b):(Qt cs k c').flatMap Yb=cs.flatMap Yb/\(Qt cs k c').length=cs.length:=by
 have hm:k∈cs.map (·.1):=List.mem_map.2 ⟨cs[i],List.getElem_mem hi,hk⟩;unfold Qt;rw [if_pos hm];refine ⟨?_,List.length_map _⟩;rw [List.flatMap_map];refine B0 λp hp=>?_;by_cases hpk:p.1=k
 ·rw [if_pos hpk];obtain ⟨j,hj,rfl⟩:=List.mem_iff_getElem.1 hp
  have hij:j=i:=by
   rcases Nat.lt_trichotomy j i with h|h|h
   ·have:=List.pairwise_iff_getElem.1 hs j i hj hi h;rw [hpk,hk] at this;exact absurd this (J5 _)
   ·exact h
   ·have:=List.pairwise_iff_getElem.1 hs i j hi hj h;rw [hpk,hk] at this;exact absurd this (J5 _)
  subst hij;unfold Yb;rw [hb,hk]
 ·rw [if_neg hpk]
theorem Q4f (hs:Dv cs) {i:Nat} (hi:i<cs.length) (hk:cs[i].1=k):Qo cs k=some cs[i].2:=by
 refine Xj (List.pairwise_map.2 (hs.imp λ{a b} h e=>by rw [e] at h;exact J5 _ h)) ?_;rw [<-hk];exact List.getElem_mem hi
theorem Bs (hs:Dv cs) {i:Nat} (hi:i<cs.length) (hk:cs[i].1=k):J3 (Qt cs k c')=Jn (J3 cs) k c'.vs:=by
 have he:cs=cs.take i++cs[i]::cs.drop (i+1):=by rw [<-List.drop_eq_getElem_cons hi,List.take_append_drop]
 have hlo: ∀p∈J3 (cs.take i),Ug p.1 k:=λp hp=>by
  obtain ⟨q,hq,rfl⟩:=List.mem_map.1 hp;obtain ⟨j,hj,rfl⟩:=List.mem_iff_getElem.1 hq;rw [List.length_take] at hj;rw [List.getElem_take];have:=List.pairwise_iff_getElem.1 hs j i (by omega) hi (by omega);rw [hk] at this;exact this
 have hnd:((cs.take i++(k,cs[i].2)::cs.drop (i+1)).map (·.1)).Nodup:=by
  rw [<-hk,<-he];exact List.pairwise_map.2 (hs.imp λ{a b} h e=>by rw [e] at h;exact J5 _ h)
 have he2:cs=cs.take i++(k,cs[i].2)::cs.drop (i+1):=by rw [<-hk];exact he
 have e1:Qt cs k c'=cs.take i++(k,c')::cs.drop (i+1):=by
  conv=>lhs;rw [he2]
  exact Xb hnd
 have e2:J3 cs=J3 (cs.take i)++(k,cs[i].2.vs)::J3 (cs.drop (i+1)):=by
  conv=>lhs;rw [he2]
  unfold J3;rw [List.map_append,List.map_cons]
 rw [e1,e2,Q37 _ _ _ hlo];unfold J3;rw [List.map_append,List.map_cons]
theorem Xx.Gt (h:Xx w x r y P o st la lc cs ka kc K) (hs:Dv cs) {i:Nat} (hi:i<cs.length) (hki:cs[i].1=k) (hb:c'.b=cs[i].2.b) (hk:Kp (λg=>g=cs[i].2.b\/cs[i].2.row.ownBlock=some g) w w') (hok:Y7 148 w' c') (hrow:c'.row.ownBlock=cs[i].2.row.ownBlock\/ ∀g,c'.row.ownBlock=some g->w.heap.size<=g):
  Xx w' x r y P o {st with keys:=Jn st.keys k c'.vs} la lc (Qt cs k c') ka kc K:=by
 have hmem:=List.getElem_mem hi;obtain ⟨t1,t2,t3,t4,t5⟩:=h.ty;have hco:=h.Vl.each _ hmem
 have hS: ∀g,(g=cs[i].2.b\/cs[i].2.row.ownBlock=some g)->Ty w 148 g\/Ty w 44 g:=by
  rintro g (rfl|hg)
  ·exact .inl ⟨_,hco.cell⟩
  ·exact .inr (hco.own.type g hg)
 obtain ⟨k1,k2⟩:=I9 hs hi hki hb;refine ⟨?_,?_,h.Vl.set (by decide) (by decide) (Q4f hs hi hki) hb hk hok hrow,h.kept.keep hk λg hg hh=>?_,?_,h.Gn⟩
 ·rw [k2];exact hk.get h.cell λhh=>(hS _ hh).elim (λt=>t1.ne t (by decide) rfl) λt=>t1.ne t (by decide) rfl
 ·rw [k1,k2];exact h.row.keep hk λg hg hh=>(hS _ hh).elim (λt=>(t2 g hg).ne t (by decide) rfl) λt=>(t2 g hg).ne t (by decide) rfl
 ·rcases hg with hg|⟨z,hz,hg⟩
  ·exact (hS _ hh).elim (λt=>(t4 g hg).ne t (by decide) rfl) λt=>(t4 g hg).ne t (by decide) rfl
  ·exact (hS _ hh).elim (λt=>(t5 z hz g hg).ne t (by decide) rfl) λt=>(t5 z hz g hg).ne t (by decide) rfl
 ·rw [Bs hs hi hki,h.Et]
theorem Xx.Qrh (h:Xx w x r y P o st la lc cs ka kc K) {i:Nat} (hsp:Mc cs k i false) (hk:Kp No w w2) {b:Nat} (hok:Y7 148 w2 ⟨b,none,0,[]⟩) (hb:w.heap.size<=b) {a':Option Addr} {l':Nat}
  (ho:Own w2 158 2 (.slice a' (cs.length+1) l') (cs.length+1) ((cs.take i++(k,⟨b,none,0,[]⟩)::cs.drop i).flatMap Yb)) (hr: ∀g,(Value.slice a' (cs.length+1) l').ownBlock=some g->w.heap.size<=g):
  Xx (w2.setCell ⟨x,5,none⟩ (.slice a' (cs.length+1) l')) x r y P o {st with keys:=Jn st.keys k []} a' l' (cs.take i++(k,⟨b,none,0,[]⟩)::cs.drop i) ka kc K:=by
 have hkn:k∉cs.map (·.1):=λhm=>by
  obtain ⟨p,hp,e⟩:=List.mem_map.1 hm;rw [<-List.take_append_drop i cs] at hp;rcases List.mem_append.1 hp with hp|hp
  ·have:=hsp.lo p hp;rw [e] at this;exact J5 _ this
  ·have:=hsp.no rfl p hp;rw [e] at this;exact J5 _ this
 have h2:=h.Q5 hk;have hxa:=h2.Km;have hs:Kp (Mer.One x) w2 (w2.setCell ⟨x,5,none⟩ (.slice a' (cs.length+1) l')):=(Kp.refl (Mer.One x) w2).setCell (p:=⟨x,5,none⟩) (.inl (show Mer.One x x from rfl)) _
 have hlen:(cs.take i++(k,(⟨b,none,0,[]⟩:Ja))::cs.drop i).length=cs.length+1:=by
  have:=(Gk cs i (k,(⟨b,none,0,[]⟩:Ja))).length_eq;rw [<-this,List.length_append,List.length_singleton]
 have hxl:=Q3 h.cell
 have hkeys:J3 (cs.take i++(k,(⟨b,none,0,[]⟩:Ja))::cs.drop i)=Jn st.keys k []:=by
  have e1:st.keys=J3 (cs.take i)++J3 (cs.drop i):=by
   rw [<-h.Et];unfold J3;rw [<-List.map_append,List.take_append_drop]
  rw [e1,Q68]
  ·unfold J3;rw [List.map_append,List.map_cons];rfl
  ·intro p hp;obtain ⟨q,hq,rfl⟩:=List.mem_map.1 hp;exact hsp.lo q hq
  ·intro p hp;obtain ⟨q,hq,rfl⟩:=List.mem_map.1 hp;exact hsp.no rfl q hq
 have hadd:Xn 148 w2 (cs++[(k,⟨b,none,0,[]⟩)]):=h.Vl.add hkn hk (λ_ _ x=>x) hok hb (λg hg=>by simp [Ja.row,Value.ownBlock] at hg);have hins:=hadd.perm (Gk cs i _);refine ⟨?_,?_,hins.keep hs λg hg e=>?_,h2.kept.keep hs λg hg e=>hxa.2.2 ((show g=x from e)▸hg),hkeys,h.Gn⟩
 ·have:=Qh h2.cell 5 (.slice a' (cs.length+1) l');rw [hlen];simpa [Vu] using this
 ·rw [hlen]
  exact ho.keep hs λg hg e=>by
   have:=hr g hg;have e:g=x:=e;omega
 ·have e:g=x:=e;subst e;obtain ⟨p,hp,hf⟩:=hg;have hp2:p∈cs++[(k,(⟨b,none,0,[]⟩:Ja))]:=(Gk cs i _).mem_iff.2 hp;rcases List.mem_append.1 hp2 with hp2|hp2
  ·exact hxa.2.1 ⟨p,hp2,hf⟩
  ·rw [List.mem_singleton] at hp2;subst hp2;rcases hf with hf|hf|⟨z,hz,_⟩
   ·have hf:g=b:=hf;omega
   ·simp [Ja.row,Value.ownBlock] at hf
   ·exact absurd hz List.not_mem_nil
theorem Xx.setOf (h:Xx w x r y P o st la lc cs ka kc K) (h5:st.of.length=5) {i:Nat} (hi:i<5) (dn:Jt):
  Xx (((w.setCell ⟨x,8+i*3,none⟩ (.int .i64 dn.seq)).setCell ⟨x,8+i*3+1,none⟩ (.int .i64 dn.m)).setCell ⟨x,8+i*3+2,none⟩ (.int .i64 dn.c)) x r y P o {st with of:=st.of.set i dn} la lc cs ka kc K:=by
 refine h.turn ((((Kp.refl (Mer.One x) w).setCell (p:=⟨x,8+i*3,none⟩) (.inl (show Mer.One x x from rfl)) _).setCell (p:=⟨x,8+i*3+1,none⟩) (.inl (show Mer.One x x from rfl)) _).setCell (p:=⟨x,8+i*3+2,none⟩) (.inl (show Mer.One x x from rfl)) _) ?_ rfl rfl;have h9:=Qh (Qh (Qh h.cell (8+i*3) (.int .i64 dn.seq)) (8+i*3+1) (.int .i64 dn.m)) (8+i*3+2) (.int .i64 dn.c);rw [h9];have hs:=λj=>Ea (of:=st.of) (i:=i) (by omega) dn j;unfold Vu;simp only
 rcases K8 hi with rfl|rfl|rfl|rfl|rfl
 all_goals
  rw [hs 0,hs 1,hs 2,hs 3,hs 4];simp
theorem Xx.Mp (h:Xx w x r y P o st la lc cs ka kc K) {z:Qa} {a':Option Addr} {c2:Nat} (hk:Kp (λg=>(Value.slice ka K.length kc).ownBlock=some g) w w') (ho:Own w' 46 9 (.slice a' (K.length+1) c2) (K.length+1) (K.flatMap recC++recC z))
  (hb:(Value.slice a' (K.length+1) c2).ownBlock=(Value.slice ka K.length kc).ownBlock\/ ∃g,(Value.slice a' (K.length+1) c2).ownBlock=some g/\w.heap.size<=g) (hz:z.ok w):
  Xx (w'.setCell ⟨x,23,none⟩ (.slice a' (K.length+1) c2)) x r y P o {st with kept:=st.kept++[z.r]} la lc cs a' c2 (K++[z]):=by
 have hxa:=h.Km;obtain ⟨t1,t2,t3,t4,t5⟩:=h.ty;have hcell:=hk.get h.cell λhg=>hxa.2.2 (.inl hg);have hxl:=Q3 h.cell;have hs:Kp (Mer.One x) w' (w'.setCell ⟨x,23,none⟩ (.slice a' (K.length+1) c2)):=(Kp.refl (Mer.One x) w').setCell (p:=⟨x,23,none⟩) (.inl (show Mer.One x x from rfl)) _;have hall:Kp (λg=>g=x\/(Value.slice ka K.length kc).ownBlock=some g) w (w'.setCell ⟨x,23,none⟩ (.slice a' (K.length+1) c2)):=(hk.mono λ_ _ e=> .inr e).trans hs λ_ _ e=> .inl e
 have hnew: ∀g,(Value.slice a' (K.length+1) c2).ownBlock=some g->g≠x:=λg hg e=>by
  rcases hb with hb|⟨g',hb,hg'⟩
  ·exact hxa.2.2 (.inl (by rw [<-hb,hg,e]))
  ·rw [hb] at hg;injection hg with hg;omega
 have hS: ∀g,(g=x\/(Value.slice ka K.length kc).ownBlock=some g)->Ty w 64 g\/Ty w 46 g:=by
  rintro g (rfl|hg)
  ·exact .inl t1
  ·exact .inr (t4 g hg)
 refine ⟨?_,h.row.keep hall λg hg hh=>(hS g hh).elim (λt=>(t2 g hg).ne t (by decide) rfl) λt=>(t2 g hg).ne t (by decide) rfl,h.Vl.keep hall λg hf hh=>?_,⟨?_,λv hv=>?_⟩,h.Et,by rw [List.map_append,h.Gn];rfl⟩
 ·have:=Qh hcell 23 (.slice a' (K.length+1) c2);rw [List.length_append,List.length_singleton];simpa [Vu] using this
 ·rcases t3 g hf with t|t|t<;>exact (hS g hh).elim (λu=>t.ne u (by decide) rfl) λu=>t.ne u (by decide) rfl
 ·rw [List.length_append,List.length_singleton,List.flatMap_append,List.flatMap_cons,List.flatMap_nil,List.append_nil];exact ho.keep hs λg hg e=>hnew g hg e
 ·have hval:v.ok w:=by
   rcases List.mem_append.1 hv with hv|hv
   ·exact h.kept.vals v hv
   ·rw [List.mem_singleton] at hv;rw [hv];exact hz
  exact Qd.ok.apart hval hall λg hg cur hcur=>(hS g hg).elim (λt=>t.ne ⟨cur,hcur⟩ (by decide) rfl) λt=>t.ne ⟨cur,hcur⟩ (by decide) rfl
end
def Qot (t1 t2:Int) (p:ByteArray×List Qf):ByteArray×List Qf:=(p.1,Zl p.2 t1 t2)
def Fh (l:List (ByteArray×List Qf)) (t1 t2:Int) (j:Nat):List (ByteArray×List Qf):=(l.take j).map (Qot t1 t2)++l.drop j
def Fa (l:List (ByteArray×List Qf)) (t1 t2:Int) (j:Nat):Nat:=((l.take j).map λp=>Jb p.2 t1 t2).sum
def V7 (cs:Z7):Z7:=cs.filter λp=>decide (p.2.R≠[])
theorem Q6e (l:List (ByteArray×List Qf)) (t1 t2:Int) (j:Nat):(Fh l t1 t2 j).map (·.1)=l.map (·.1):=by
 unfold Fh;rw [List.map_append,List.map_map];conv=>rhs;rw [<-List.take_append_drop j l,List.map_append]
 rfl
theorem Qih {l:List (ByteArray×List Qf)} {t1 t2:Int} {j:Nat} (hj:j<l.length):(Fh l t1 t2 j)[j]?=some l[j]:=by
 unfold Fh;rw [List.getElem?_append_right (by rw [List.length_map,List.length_take];omega),List.length_map,List.length_take,List.getElem?_drop,Nat.min_eq_left (Nat.le_of_lt hj),Nat.sub_self,Nat.add_zero,List.getElem?_eq_getElem hj]
theorem Qcz (st:J7) (t1 t2:Int) (j:Nat):Fa st.keys t1 t2 j<=Zy st:=by
 unfold Fa Zy
 have h1: ∀l:List (ByteArray×List Qf),(l.map λp=>Jb p.2 t1 t2).sum<=(l.map λp=>p.2.length).sum:=by
  intro l;induction l with
  |nil=>exact Nat.le_refl _
  |cons p l ih=>
   have:=Q6f p.2 t1 t2;simp only [List.map_cons,List.sum_cons];omega
 refine Nat.le_trans (h1 _) ?_;conv=>rhs;rw [<-List.take_append_drop j st.keys,List.map_append,List.sum_append]
 omega
theorem Ar {l:List (ByteArray×List Qf)} (hs:Je l) {t1 t2:Int} {j:Nat} (hj:j<l.length):Jn (Fh l t1 t2 j) l[j].1 (Zl l[j].2 t1 t2)=Fh l t1 t2 (j+1)/\Fa l t1 t2 (j+1)=Fa l t1 t2 j+Jb l[j].2 t1 t2:=by
 have hlo: ∀p∈(l.take j).map (Qot t1 t2),Ug p.1 l[j].1:=λp hp=>by
  obtain ⟨q,hq,rfl⟩:=List.mem_map.1 hp;obtain ⟨i,hi,rfl⟩:=List.mem_iff_getElem.1 hq;rw [List.length_take] at hi;rw [List.getElem_take];exact List.pairwise_iff_getElem.1 hs i j (by omega) hj (by omega)
 constructor
 ·unfold Fh;have e:l.drop j=(l[j].1,l[j].2)::l.drop (j+1):=List.drop_eq_getElem_cons hj;rw [e,Q37 _ _ _ hlo,List.take_succ_eq_append_getElem hj,List.map_append,List.append_assoc];rfl
 ·unfold Fa;rw [List.take_succ_eq_append_getElem hj,List.map_append,List.sum_append];simp
theorem Qd0 (l:List (ByteArray×List Qf)) (t1 t2:Int):(Fh l t1 t2 l.length).filter (λp=>decide (p.2≠[]))=Fi l t1 t2:=by
 unfold Fh Fi;rw [List.take_length,List.drop_length,List.append_nil];rfl
theorem Q55 (cs:Z7):J3 (V7 cs)=(J3 cs).filter λp=>decide (p.2≠[]):=by
 unfold J3 V7;rw [List.filter_map];congr 1
 refine List.filter_congr λp _=>?_;show decide (p.2.R≠[])=decide (p.2.vs≠[])
 unfold Ja.vs;simp [List.map_eq_nil_iff]
structure O8 (w w1:World) (s r y:Nat) (P:ByteArray) (o:Nat) (st:J7) (la:Option Addr) (lc:Nat) (cs:Z7) (ka:Option Addr) (kc:Nat) (K:List Qa) (t1 t2:Int) (B tb j:Nat) (Vg:Z7) (va:Option Addr) (vn vc:Nat) (wr:World):Prop where
 st:Xx wr s r y P o {st with keys:=Fh st.keys t1 t2 j,mm:=t1,mc:=t2} la lc Vg ka kc K
 foot: ∀g,Jj s la lc Vg ka kc K g->Jj s la lc cs ka kc K g\/w1.heap.size<=g
 kp:Kp (Jj s la lc cs ka kc K) w wr
 base:w.heap.size<=w1.heap.size
 size:w1.heap.size<=wr.heap.size
 box:wr.heap[tb]?=some (.cells #[.int .i64 t1, .int .i64 t2] 25 (0,0))
 len: ∀p∈Vg,p.2.R.length<=B
 row:Own wr 158 2 (.slice va vn vc) vn ((V7 (Vg.take j)).flatMap Yb)
 Uz:vn=(V7 (Vg.take j)).length
 Ih: ∀g,(Value.slice va vn vc).ownBlock=some g->w1.heap.size<=g/\ ¬Jj s la lc Vg ka kc K g
structure Q43 (w w1:World) (s r y:Nat) (P:ByteArray) (o:Nat) (st:J7) (la:Option Addr) (lc:Nat) (cs:Z7) (ka:Option Addr) (kc:Nat) (K:List Qa) (t1 t2:Int) (B tb j:Nat) (L0:Z7) (x:ByteArray×Ja) (cs2:Z7) (va:Option Addr) (vn vc:Nat) (wr:World):Prop where
 st:Xx wr s r y P o {st with keys:=Fh st.keys t1 t2 (j+1),mm:=t1,mc:=t2} la lc cs2 ka kc K
 foot: ∀g,Jj s la lc cs2 ka kc K g->Jj s la lc cs ka kc K g\/w1.heap.size<=g
 kp:Kp (Jj s la lc cs ka kc K) w wr
 base:w.heap.size<=w1.heap.size
 size:w1.heap.size<=wr.heap.size
 box:wr.heap[tb]?=some (.cells #[.int .i64 t1, .int .i64 t2] 25 (0,0))
 len: ∀p∈cs2,p.2.R.length<=B
 row:Own wr 158 2 (.slice va vn vc) vn ((V7 L0).flatMap Yb)
 Uz:vn=(V7 L0).length
 Ih: ∀g,(Value.slice va vn vc).ownBlock=some g->w1.heap.size<=g/\ ¬Jj s la lc cs2 ka kc K g
 take:cs2.take (j+1)=L0++[x]
def Qno (w:World) (s r y:Nat) (P:ByteArray) (o:Nat) (st:J7) (la:Option Addr) (lc:Nat) (cs:Z7) (ka:Option Addr) (kc:Nat) (K:List Qa) (t1 t2:Int) (B:Nat) (e:Ending) (w':World):Prop:=
 e= .returned (.int .i64 (Fb st t1 t2:Nat))/\ ∃la' Q2v cs',Xx w' s r y P o (Fc st t1 t2) la' Q2v cs' ka kc K/\(∀g,Jj s la' Q2v cs' ka kc K g->Jj s la lc cs ka kc K g\/w.heap.size<=g)/\Kp (Jj s la lc cs ka kc K) w w'/\(∀p∈cs',p.2.R.length<=B)/\cs'.length<=cs.length
section
variable {w w1 wr w2:World} {s r y o B tb j:Nat} {P:ByteArray} {st:J7} {cs Vg:Z7} {la ka va:Option Addr} {lc kc vn vc:Nat} {K:List Qa} {t1 t2:Int}
theorem Xx.Q38 (h:Xx w s r y P o st la lc cs ka kc K) (t1 t2:Int):Xx ((w.setCell ⟨s,6,none⟩ (.int .i64 t1)).setCell ⟨s,7,none⟩ (.int .i64 t2)) s r y P o {st with mm:=t1,mc:=t2} la lc cs ka kc K:=by
 refine h.turn (((Kp.refl (Mer.One s) w).setCell (p:=⟨s,6,none⟩) (.inl (show Mer.One s s from rfl)) _).setCell (p:=⟨s,7,none⟩) (.inl (show Mer.One s s from rfl)) _) ?_ rfl rfl;rw [Qh (Qh h.cell 6 (.int .i64 t1)) 7 (.int .i64 t2)];rfl
theorem Xx.setRow (h:Xx w s r y P o st la lc cs ka kc K) {cs':Z7} (hsub:cs'.Sublist cs) (ho:Own w 158 2 (.slice va cs'.length vc) cs'.length (cs'.flatMap Yb)):
  Xx (w.setCell ⟨s,5,none⟩ (.slice va cs'.length vc)) s r y P o {st with keys:=J3 cs'} va vc cs' ka kc K:=by
 have hxa:=h.Km;have hs:Kp (Mer.One s) w (w.setCell ⟨s,5,none⟩ (.slice va cs'.length vc)):=(Kp.refl (Mer.One s) w).setCell (p:=⟨s,5,none⟩) (.inl (show Mer.One s s from rfl)) _;refine ⟨?_,ho.keep hs λg hg e=>?_,(h.Vl.keep hs λg hg e=>hxa.2.1 ((show g=s from e)▸hg)).sub hsub,h.kept.keep hs λg hg e=>hxa.2.2 ((show g=s from e)▸hg),rfl,h.Gn⟩
 ·have:=Qh h.cell 5 (.slice va cs'.length vc);simpa [Vu] using this
 ·obtain ⟨cur,hcur⟩:=ho.type g hg;have e:g=s:=e;exact Q7 hcur h.cell (by decide) e
theorem O8.names (h:O8 w w1 s r y P o st la lc cs ka kc K t1 t2 B tb j Vg va vn vc wr):Vg.map (·.1)=st.keys.map (·.1):=by
 have h1:=congrArg (List.map (·.1)) h.st.Et;rw [Za] at h1;rw [h1];exact Q6e st.keys t1 t2 j
theorem O8.sort (h:O8 w w1 s r y P o st la lc cs ka kc K t1 t2 B tb j Vg va vn vc wr) (hs:Je st.keys):Dv Vg:=by
 have h1:(st.keys.map (·.1)).Pairwise Ug:=List.pairwise_map.2 hs;rw [<-h.names] at h1;exact List.pairwise_map.1 h1
theorem O8.at_ (h:O8 w w1 s r y P o st la lc cs ka kc K t1 t2 B tb j Vg va vn vc wr) (hj:j<st.keys.length): ∃hj':j<Vg.length,Vg[j].1=st.keys[j].1/\Vg[j].2.vs=st.keys[j].2:=by
 have hl:Vg.length=st.keys.length:=by
  have:=congrArg List.length h.names;rwa [List.length_map,List.length_map] at this
 have h1:=congrArg (λl=>l[j]?) h.st.Et;simp only at h1
 rw [Qih hj] at h1;unfold J3 at h1;rw [List.getElem?_map,List.getElem?_eq_getElem (by omega)] at h1;simp only [Option.map_some,Option.some.injEq] at h1;exact ⟨by omega,congrArg (·.1) h1,congrArg (·.2) h1⟩
theorem O8.no (h:O8 w w1 s r y P o st la lc cs ka kc K t1 t2 B tb j Vg va vn vc wr) (hk:Kp No wr w2):O8 w w1 s r y P o st la lc cs ka kc K t1 t2 B tb j Vg va vn vc w2:=
 ⟨h.st.Q5 hk,h.foot,h.kp.trans_no hk,h.base,Nat.le_trans h.size hk.size,hk.get h.box λx=>x,h.len,h.row.keep hk λ_ _ x=>x,h.Uz,h.Ih⟩
theorem O8.mid (h:O8 w w1 s r y P o st la lc cs ka kc K t1 t2 B tb j Vg va vn vc wr) (hs:Je st.keys) (hj:j<st.keys.length) {c':Ja} {q:ByteArray×Ja} (hq: ∃hj':j<Vg.length,q=Vg[j]) (hT:O7 148 q.2 c' t1 t2 wr w2):
  Q43 w w1 s r y P o st la lc cs ka kc K t1 t2 B tb j (Vg.take j) (q.1,c') (Qt Vg q.1 c') va vn vc w2:=by
 obtain ⟨hj',rfl⟩:=hq;obtain ⟨_,hk,hv⟩:=h.at_ hj;have hsc:=h.sort hs;have hco:=h.st.Vl.each _ (List.getElem_mem hj');have hst:=h.st.Gt hsc hj' (k:=Vg[j].1) rfl hT.b (hT.kp.mono λi _ e=> .inl e) hT.ok hT.row
 have hkeys:Jn (Fh st.keys t1 t2 j) Vg[j].1 c'.vs=Fh st.keys t1 t2 (j+1):=by
  rw [hT.vs,hv,hk];exact (Ar hs hj).1
 have hlen:(Qt Vg Vg[j].1 c').length=Vg.length:=(I9 hsc hj' rfl hT.b).2;have hset:Qt Vg Vg[j].1 c'=Vg.set j (Vg[j].1,c'):=Ba (u:=Vg[j].2) (List.pairwise_map.2 (hsc.imp λ{a b} h e=>by rw [e] at h;exact J5 _ h)) (List.getElem?_eq_getElem hj');have hcf: ∀g,Ej (Qt Vg Vg[j].1 c') g->Ej Vg g\/wr.heap.size<=g:=Ly (List.getElem_mem hj') λg hg=>Q49 (n:=wr.heap.size) hT.b hT.row hT.vals hg
 have Qo4: ∀g,Jj s la lc (Qt Vg Vg[j].1 c') ka kc K g->Jj s la lc Vg ka kc K g\/wr.heap.size<=g:=λg hg=>by
  rcases hg with hg|hg|hg|hg
  ·exact .inl (.inl hg)
  ·rw [hlen] at hg;exact .inl (.inr (.inl hg))
  ·exact (hcf g hg).imp (λh=> .inr (.inr (.inl h))) id
  ·exact .inl (.inr (.inr (.inr hg)))
 refine ⟨?_,λg hg=>?_,h.kp.trans hT.kp λi hi e=>?_,h.base,Nat.le_trans h.size hT.kp.size,hT.kp.get h.box λe=>Q7 h.box hco.cell (by decide) e,?_,h.row.keep hT.kp λg hg e=>?_,h.Uz,λg hg=>⟨(h.Ih g hg).1,λhh=>?_⟩,?_⟩
 ·have:=hst;rw [show ({st with keys:=Fh st.keys t1 t2 j,mm:=t1,mc:=t2}:J7).keys=Fh st.keys t1 t2 j from rfl,hkeys] at this;exact this
 ·rcases Qo4 g hg with h1|h1
  ·exact h.foot g h1
  ·exact .inr (Nat.le_trans h.size h1)
 ·have e:i=Vg[j].2.b:=e;rcases h.foot i (.inr (.inr (.inl ⟨_,List.getElem_mem hj', .inl e⟩))) with h1|h1
  ·exact h1
  ·have:=h.base;omega
 ·refine Fv (Q:=λc=>c.R.length<=B) h.len ?_;have h1:=congrArg List.length hT.vs;rw [Ki] at h1;unfold Ja.vs at h1;rw [List.length_map,List.length_map] at h1;have:=h.len _ (List.getElem_mem hj');omega
 ·obtain ⟨cur,hcur⟩:=h.row.type g hg;have e:g=Vg[j].2.b:=e;exact Q7 hcur hco.cell (by decide) e
 ·rcases Qo4 g hh with h1|h1
  ·exact (h.Ih g hg).2 h1
  ·have:=h.row.lt g hg;omega
 ·rw [hset,List.take_set,List.take_succ_eq_append_getElem hj',List.set_append_right _ _ (by rw [List.length_take];omega)];congr 1
  rw [List.length_take,Nat.min_eq_left (Nat.le_of_lt hj'),Nat.sub_self];rfl
theorem B2 (L0:Z7) (x:ByteArray×Ja):V7 (L0++[x])=if x.2.R≠[] then V7 L0++[x] else V7 L0:=by
 unfold V7;rw [List.filter_append];by_cases h:x.2.R≠[]
 ·rw [if_pos h,List.filter_cons_of_pos (by simpa using h)];rfl
 ·rw [if_neg h,List.filter_cons_of_neg (by simpa using h)];simp
section
variable {L0 cs2:Z7} {x:ByteArray×Ja}
theorem Q43.no (h:Q43 w w1 s r y P o st la lc cs ka kc K t1 t2 B tb j L0 x cs2 va vn vc wr) (hk:Kp No wr w2):Q43 w w1 s r y P o st la lc cs ka kc K t1 t2 B tb j L0 x cs2 va vn vc w2:=
 ⟨h.st.Q5 hk,h.foot,h.kp.trans_no hk,h.base,Nat.le_trans h.size hk.size,hk.get h.box λx=>x,h.len,h.row.keep hk λ_ _ x=>x,h.Uz,h.Ih,h.take⟩
theorem Q43.skip (h:Q43 w w1 s r y P o st la lc cs ka kc K t1 t2 B tb j L0 x cs2 va vn vc wr) (h0:x.2.R=[]):O8 w w1 s r y P o st la lc cs ka kc K t1 t2 B tb (j+1) cs2 va vn vc wr:=by
 have e:V7 (cs2.take (j+1))=V7 L0:=by rw [h.take,B2,if_neg (λhn=>hn h0)]
 exact ⟨h.st,h.foot,h.kp,h.base,h.size,h.box,h.len,by rw [e];exact h.row,by rw [e];exact h.Uz,h.Ih⟩
theorem Q43.more (h:Q43 w w1 s r y P o st la lc cs ka kc K t1 t2 B tb j L0 x cs2 va vn vc wr) (h0:x.2.R≠[]) {Qmx:Option Addr} {Qmy:Nat} (ho:Own w2 158 2 (.slice Qmx (vn+1) Qmy) (vn+1) ((V7 L0).flatMap Yb++Yb x)) (hk:Kp (λk=>(Value.slice va vn vc).ownBlock=some k) wr w2)
  (hb:(Value.slice Qmx (vn+1) Qmy).ownBlock=(Value.slice va vn vc).ownBlock\/ ∃g,(Value.slice Qmx (vn+1) Qmy).ownBlock=some g/\wr.heap.size<=g):O8 w w1 s r y P o st la lc cs ka kc K t1 t2 B tb (j+1) cs2 Qmx (vn+1) Qmy w2:=by
 have e:V7 (cs2.take (j+1))=V7 L0++[x]:=by rw [h.take,B2,if_pos h0]
 have hns: ∀g,Jj s la lc cs2 ka kc K g-> ¬(Value.slice va vn vc).ownBlock=some g:=λg hg e=>(h.Ih g e).2 hg;refine ⟨h.st.keep hk hns,h.foot,h.kp.trans hk λi hi e=>?_,h.base,Nat.le_trans h.size hk.size,hk.get h.box λe=>?_,h.len,?_,?_,λg hg=>?_⟩
 ·have:=(h.Ih i e).1;have:=h.base;omega
 ·obtain ⟨cur,hcur⟩:=h.row.type _ e;exact Q7 h.box hcur (by decide) rfl
 ·rw [e,List.flatMap_append,List.flatMap_cons,List.flatMap_nil,List.append_nil];exact ho
 ·rw [e,List.length_append,List.length_singleton,<-h.Uz]
 ·rcases hb with hb|⟨g',hb,hg'⟩
  ·rw [hb] at hg;exact h.Ih g hg
  ·rw [hb] at hg;injection hg with hg;subst hg;exact ⟨Nat.le_trans h.size hg',λhh=>by have:=h.st.lt _ hh;omega⟩
end
theorem O8.stop (h:O8 w w1 s r y P o st la lc cs ka kc K t1 t2 B tb j Vg va vn vc wr) (hj:j=st.keys.length) (hcs:cs.length=st.keys.length):
  Qno w s r y P o st la lc cs ka kc K t1 t2 B (.returned (.int .i64 (Fb st t1 t2:Nat))) (wr.setCell ⟨s,5,none⟩ (.slice va vn vc)):=by
 have hl:Vg.length=st.keys.length:=by
  have:=congrArg List.length h.names;rwa [List.length_map,List.length_map] at this
 have ht:Vg.take j=Vg:=List.take_of_length_le (by omega);have hrow:=h.row;have hrn:=h.Uz;rw [ht] at hrow hrn;rw [hrn] at hrow;have hst:=h.st.setRow (cs':=V7 Vg) List.filter_sublist hrow
 have hk:J3 (V7 Vg)=Fi st.keys t1 t2:=by
  rw [Q55,h.st.Et,hj];exact Qd0 st.keys t1 t2
 rw [<-hrn] at hst;refine ⟨rfl,va,vc,V7 Vg,?_,λg hg=>?_,h.kp.setCell (p:=⟨s,5,none⟩) (.inl (.inl rfl)) _,λp hp=>h.len p ((List.mem_filter.1 hp).1),?_⟩
 ·rw [hk] at hst;exact hst
 ·rcases hg with hg|hg|⟨p,hp,hg⟩|hg
  ·exact .inl (.inl hg)
  ·rw [Hn va _ vn _ vc] at hg;exact .inr (Nat.le_trans h.base (h.Ih g hg).1)
  ·exact (h.foot g (.inr (.inr (.inl ⟨p,(List.mem_filter.1 hp).1,hg⟩)))).imp id λh2=>Nat.le_trans h.base h2
  ·exact .inl (.inr (.inr (.inr hg)))
 ·have:=List.length_filter_le (λp:ByteArray×Ja=>decide (p.2.R≠[])) Vg;unfold V7;omega
theorem Q9c (h:Xx w s r y P o st la lc cs ka kc K) (hinv:Inv o st) (hB:B<=1000000) (hc: ∀p∈cs,p.2.R.length<=B) (hcn:cs.length<=1000000) (hm:Zy st<=1000000000) (ht:t1<=9223372036854775807):
  Calls Tryz.prog 76 #[.pointer (some ⟨s,0,none⟩),Xo t1 t2] w (Qno w s r y P o st la lc cs ka kc K t1 t2 B):=by
 have hs:=hinv.sorted;have hcs:cs.length=st.keys.length:=by rw [<-h.Et];unfold J3;rw [List.length_map]
 obtain ⟨w1,hw1⟩: ∃W,W=w.alloc (.cells #[.int .i64 t1, .int .i64 t2] 25):=⟨_,rfl⟩;have k1:Kp No w w1:=by rw [hw1];exact zK.alloc _
 have b1:w1.heap[w.heap.size]?=some (.cells #[.int .i64 t1, .int .i64 t2] 25 (0,0)):=by rw [hw1];exact heap_alloc_new w _
 obtain ⟨tb,htb⟩: ∃b,b=w.heap.size:=⟨_,rfl⟩;rw [<-htb] at b1;have h1:=h.Q5 k1;have f6:=Qc h1.cell 6;have f7:=Qc h1.cell 7;have c6:w1.cell? ⟨s,6,none⟩=some (.int .i64 st.mm):=h1.at_ zK 6;have c7:w1.cell? ⟨s,7,none⟩=some (.int .i64 st.mc):=h1.at_ zK 7;have d0:w1.cell? ⟨tb,0,none⟩=some (.int .i64 t1):=Q0 b1 0;have d1:w1.cell? ⟨tb,1,none⟩=some (.int .i64 t2):=Q0 b1 1;have sl1:=Q3 h1.cell;have J6a:=Q3 b1;obtain ⟨w2,hw2⟩: ∃W,W=(w1.setCell ⟨s,6,none⟩ (.int .i64 t1)).setCell ⟨s,7,none⟩ (.int .i64 t2):=⟨_,rfl⟩;have k2:Kp (Mer.One s) w1 w2:=by rw [hw2];exact ((Kp.refl (Mer.One s) w1).setCell (p:=⟨s,6,none⟩) (.inl (show Mer.One s s from rfl)) _).setCell (p:=⟨s,7,none⟩) (.inl (show Mer.One s s from rfl)) _
 have h2:Xx w2 s r y P o {st with mm:=t1,mc:=t2} la lc cs ka kc K:=by rw [hw2];exact h1.Q38 t1 t2
 have hst:s≠tb:=by have:=Q3 h.cell;omega
 have b2:=k2.get b1 λe=>hst (show tb=s from e).symm;have e0:Fh st.keys t1 t2 0=st.keys:=rfl
 have hJ0:O8 w w2 s r y P o st la lc cs ka kc K t1 t2 B tb 0 cs none 0 0 w2:=by
  refine ⟨by rw [e0];exact h2,λg hg=> .inl hg,(Kp.of_no k1).trans k2 λi _ e=> .inl e,by have:=k1.size;have:=k2.size;omega,Nat.le_refl _,b2,hc,Own.nil _ _ _,rfl,λg hg=>by simp [Value.ownBlock] at hg⟩
 obtain ⟨n,hn⟩: ∃n,n=st.keys.length:=⟨_,rfl⟩;have HJ:=zz hJ0;have HS:=zz (And.intro hs (And.intro hinv (And.intro hm (And.intro hcs hn))));have HW1:=zz hw1;have HW2:=zz hw2;have Q7e:=zz htb;have hnn:n<=1000000:=by omega
 simp only [Xo];clear h hinv hs hc hm hcs hn hw1 k1 b1 h1 hw2 k2 h2 hst b2 e0 hJ0 htb hcn;go_enter Tryz.func76,Tryz.ntmps76
 go_upto_region 1 with fail
 rw [<-Q7e.out,<-HW1.out];go_upto_region 2 with fail
 rw [<-HW2.out];clear f6 f7 c6 c7 d0 d1 sl1 J6a;go_wp2_with fail
 have HRW:=zz (show ∀j,Fa st.keys t1 t2 j<=1000000000 from λj=>Nat.le_trans (Qcz st t1 t2 j) HS.out.2.2.1);go_loopw [5,6,7] (λa b i wr=> ∃(j:Nat) (Vg:Z7) (va:Option Addr) (vn vc:Nat),j<=n/\a= .int .i64 (Fa st.keys t1 t2 j:Int)/\b= .slice va vn vc/\i= .int .i64 (j:Int)/\Hid (O8 w w2 s r y P o st la lc cs ka kc K t1 t2 B tb j Vg va vn vc wr)) (λ_ _ i _=>n-(intOf i).toNat)
 case atStart=>exact ⟨0,cs,none,0,0,Nat.zero_le _,rfl,rfl,rfl,HJ⟩
 case round=>
  clear HJ;obtain ⟨j,Vg,va,vn,vc,hj,rfl,rfl,rfl,HJ⟩:=hrel;have hsl:=Q3 HJ.out.st.cell
  have J1n:Vg.length=n:=by
   have:=congrArg List.length HJ.out.names;rw [List.length_map,List.length_map] at this;rw [this,HS.out.2.2.2.2]
  have c5:wr.cell? ⟨s,5,none⟩=some (.slice la n lc):=by
   have:=HJ.out.st.at_ (Kp.refl _ wr) 5;rw [J1n] at this;exact this
  have Ja5:=zz J1n;rcases Nat.lt_or_ge j n with hlt|hge
  ·have hjk:j<st.keys.length:=by have:=HS.out.2.2.2.2;omega
   have Qyc:j<Vg.length:=by omega
   obtain ⟨g,off,rfl,hcell⟩:=Ye (f:=Yb) (c:=2) Xd (by decide) (Own.rd' HJ.out.st.row) Qyc;obtain ⟨q,hq⟩: ∃q,q=Vg[j]:=⟨_,rfl⟩;rw [<-hq] at hcell;have r0:wr.cell? ⟨g,off+j*2,none⟩=some (.string q.1):=hcell wr zK 0 _ rfl;have r1:wr.cell? ⟨g,off+j*2+1,none⟩=some (.pointer (some ⟨q.2.b,0,none⟩)):=hcell wr zK 1 _ rfl;have hgl:g<wr.heap.size:=World.block_lt_of_cell? wr _ r0;have hqm:q∈Vg:=by rw [hq];exact List.getElem_mem Qyc
   have hco:=HJ.out.st.Vl.each q hqm;obtain ⟨cb,hcb⟩: ∃b,b=q.2.b:=⟨_,rfl⟩;have hgt: ∃cur,wr.heap[g]?=some (.cells cur 158 (0,0)):=HJ.out.st.row.type g rfl;obtain ⟨cur,hcur⟩:=hgt;have hgc:g≠cb:=by rw [hcb];exact Q7 hcur hco.cell (by decide)
   have hsc:s≠cb:=by rw [hcb];exact Q7 HJ.out.st.cell hco.cell (by decide)
   have htc:tb≠cb:=by rw [hcb];exact Q7 HJ.out.box hco.cell (by decide)
   have htl:=Q3 HJ.out.box;have a5: ∀W,Kp (Mer.One cb) wr W->W.cell? ⟨s,5,none⟩=some (.slice (some ⟨g,off,none⟩) n lc):=λW hW=>(hW.cell (p:=⟨s,5,none⟩) hsl λe=>hsc e).trans c5;have a1: ∀W,Kp (Mer.One cb) wr W->W.cell? ⟨g,off+j*2+1,none⟩=some (.pointer (some ⟨cb,0,none⟩)):=λW hW=>(hW.cell (p:=⟨g,off+j*2+1,none⟩) hgl λe=>hgc e).trans (by rw [hcb];exact r1);have RT:=zz (show ∀W,Kp (Mer.One cb) wr W->W.rangeAt tb 0 [.int .i64 t1, .int .i64 t2] from λW hW=>by have:=Qb (hW.get HJ.out.box λe=>htc e) 0 2;exact this);obtain ⟨_,hkn,hkv⟩:=HJ.out.at_ hjk
   have J5f:(q.1,q.2.vs)∈st.keys:=by
    rw [hq,hkn,hkv];exact List.getElem_mem hjk
   have hik:=HS.out.2.1.keys _ J5f
   have htr: ∀n0,Calls Tryz.prog 130 #[.pointer (some ⟨cb,0,none⟩),Xo t1 t2] (wr.drewN n0) λe w'=>e= .returned (.int .i64 (Jb q.2.vs t1 t2:Nat))/\ ∃c',O7 148 q.2 c' t1 t2 (wr.drewN n0) w':=λn0=>by
    rw [hcb];exact Qdk (wr.drewN n0) q.2 t1 t2 ht (hco.Q5 ((Kp.refl No wr).drewN n0)) hik.2.2.2.1 (Nat.le_trans (HJ.out.len q hqm) hB) λv hv=>(hik.2.2.2.2 v hv).1
   have hst:Fa st.keys t1 t2 (j+1)=Fa st.keys t1 t2 j+Jb q.2.vs t1 t2:=by rw [(Ar HS.out.1 (t1:=t1) (t2:=t2) hjk).2,<-hkv,<-hq]
   have hle:=HRW.out j;have Ql7:=HRW.out (j+1);obtain ⟨k,hk⟩: ∃k,k=Jb q.2.vs t1 t2:=⟨_,rfl⟩;obtain ⟨N,hN⟩: ∃N,N=Fa st.keys t1 t2 j:=⟨_,rfl⟩;rw [<-hk] at htr hst;rw [<-hN] at hst hle⊢;have hadd:N+k<=1000000000:=by omega
   have hwr:wrap64 ((N:Int)+(k:Int))=((N+k:Nat):Int):=by rw [IntWalk.wrap64_in _ (by omega)];omega
   simp only [Xo] at htr;have Q7g:=zz htr;have HST:=zz hst;have Ff:=zz hwr;have HQ:=zz (show ∃hj':j<Vg.length,q=Vg[j] from ⟨Qyc,hq⟩);have Vj:=zz (And.intro hcb (And.intro hgc (And.intro hsc hjk)));have J6m:=zz hcur;clear hcell hqm hco hcur hkn hkv J5f hik htr hst hle Ql7 hk hN hwr hq Qyc J1n hjk hcb r1 htc hgc hsc;go_upto_region 7 with fail
   refine zD (Mer.One cb) [0,0,0,0,0,0,0,0,0,0,2,0,0] [0,1,2,3,4,5,6,7,8,9,10,11,12] ?_;repeat (first|refine zA ?_|refine zB ?_|refine zC ?_)
   (try (apply Q8 rfl rfl rfl;(focus (intro W hW;exact Q9 25 _ rfl tb 0 rfl [.int .i64 t1, .int .i64 t2] _ (RT.out W hW) Tryz.underlying25 rfl (by kernel_rfl)));(focus (go_simp;rfl))))
   repeat (first|refine zA ?_|refine zB ?_|refine zC ?_)
   refine Q4 rfl rfl (λn0=>?_);go_wp2_with fail
   refine (Q7g.out n0).mono ?_;rintro e wa ⟨rfl,c',hT⟩;have hJ0:=HJ.out.no ((Kp.refl No wr).drewN n0);have HM:=zz (hJ0.mid HS.out.1 Vj.out.2.2.2 HQ.out hT);have J1b:Kp (Mer.One cb) wr wa:=by rw [Vj.out.1];exact hT.kp.of_drewN
   have HT:=zz (And.intro (show c'.b=cb from hT.b.trans Vj.out.1.symm) hT.ok);clear hT hJ0;go_wp2_with fail
   (try refine ⟨J1b,?_⟩)
   repeat (first|refine zA ?_|refine zB ?_|refine zC ?_)
   refine Q6 (λnq=>?_);obtain ⟨wb,hwb⟩: ∃W,W=wa.drewN nq:=⟨_,rfl⟩;have Qop:Kp No wa wb:=by rw [hwb];exact (Kp.refl No wa).drewN nq
   have Qza:=zz (HM.out.no Qop);have Qeo:=zz (And.intro HT.out.1 (HT.out.2.Q5 Qop));have hkb:=J1b.trans_no Qop;have d5:=a5 wb hkb;have d1:=a1 wb hkb;have d0:wb.cell? ⟨g,off+j*2,none⟩=some (.string q.1):=(hkb.cell (p:=⟨g,off+j*2,none⟩) hgl λe=>Vj.out.2.1 e).trans r0;have hsl2:=hkb.lt hsl;have Ql2:=hkb.lt hgl;obtain ⟨m',hm'⟩: ∃m',m'=c'.R.length:=⟨_,rfl⟩
   have dc:wb.cell? ⟨cb,0,none⟩=some (.slice c'.ra m' c'.rc):=by
    have:=Qeo.out.2.cells.1 wb zK;rw [Qeo.out.1] at this;rw [hm'];exact this
   have hcl:cb<wb.heap.size:=by have:=Q3 Qeo.out.2.cell;rw [Qeo.out.1] at this;exact this
   have J3l:=zz hm';rw [<-hwb];clear hwb Qop J1b a5 a1 RT r0 c5 hsl hgl htl hkb HM HT hm' Q7g;by_cases h0:m'=0
   ·have z1:decide (0<(m':Int))=false:=decide_eq_false (by omega);have z2:decide (0<m')=false:=decide_eq_false (by omega);have hR0:c'.R=[]:=by rw [<-List.length_eq_zero_iff,<-J3l.out];exact h0
    have HN:=zz (Qza.out.skip hR0);clear h0 hR0;go_wp2_with fail
    go_roundw
    case rel=>exact ⟨j+1,_,va,vn,vc,hlt,by rw [HST.out];go_num,rfl,by go_num,HN⟩
    case measure=>simp [intOf];omega
   ·have z1:decide (0<(m':Int))=true:=decide_eq_true (by omega);have z2:decide (0<m')=true:=decide_eq_true (by omega);have hR0:c'.R≠[]:=λe=>h0 (by rw [J3l.out,e];rfl);have HR0:=zz hR0;obtain ⟨kb,hkb⟩: ∃k,k=wb.heap.size:=⟨_,rfl⟩;obtain ⟨wc,hwc⟩: ∃W,W=wb.alloc (.cells #[.string q.1, .pointer (some ⟨cb,0,none⟩)] 158):=⟨_,rfl⟩;have M3:Kp No wb wc:=by rw [hwc];exact (Kp.refl No wb).alloc _
    have bc:wc.heap[kb]?=some (.cells #[.string q.1, .pointer (some ⟨cb,0,none⟩)] 158 (0,0)):=by rw [hwc,hkb];exact heap_alloc_new wb _
    have J0r:=Qza.out.no M3
    have hvn:vn<=1000000:=by
     have h1:=Qza.out.Uz;have h2:=List.length_filter_le (λp:ByteArray×Ja=>decide (p.2.R≠[])) (Vg.take j);have h3:=List.length_take_le j Vg;unfold V7 at h1;omega
    obtain ⟨Qmx,Qmy,wd,hrun,hown,hkd,hbd⟩:=Ey (T:=59) Tryz.underlying59 Kd J0r.row (E8 (q.1,c')) rfl bc (by show [.string q.1, .pointer (some ⟨cb,0,none⟩)]=Yb (q.1,c');unfold Yb Xg;rw [Qeo.out.1]) (by omega) (by omega);have HN:=zz (J0r.more HR0.out hown hkd hbd);have HX:=zz hrun;have Qjc:=zz (And.intro hwc hkb);clear h0 hR0 hkb hwc M3 bc J0r hvn hrun hown hkd hbd;go_wp2_with (at_builtin;rw [<-Qjc.out.1,<-Qjc.out.2];refine wpList_append_run rfl rfl rfl rfl HX.out ?_;clear HX)
    go_roundw
    case rel=>exact ⟨j+1,_,Qmx,vn+1,Qmy,hlt,by rw [HST.out];go_num,rfl,by go_num,HN⟩
    case measure=>simp [intOf];omega
  ·obtain rfl:n=j:=by omega
   have HE:=zz (HJ.out.stop HS.out.2.2.2.2 HS.out.2.2.2.1);have f5:=Qc HJ.out.st.cell 5;have htn:Fa st.keys t1 t2 n=Fb st t1 t2:=by unfold Fa Fb;rw [HS.out.2.2.2.2,List.take_length]
   rw [htn];clear hge htn;go_wp2_with fail
   go_ret
   exact HE.out
end
end Go.Proofs.YtgnkmjeoaoongaaGreatDoor
