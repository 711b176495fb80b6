/- store -/
import Derived.Test.YtgnkmjeoaoongaaGreatDoorVc8
import Derived.Test.YtgnkmjeoaoongaaGreatDoorVd1
set_option maxRecDepth 100000
set_option maxHeartbeats 4000000
namespace Go.Proofs.YtgnkmjeoaoongaaGreatDoor
open Go.RowKit Go.Mer
abbrev Lu (cs:Zn):Prop:=cs.Pairwise λx y=>Uf x.1 y.1
structure Ls (cs:Zn) (k:ByteArray) (i:Nat) (b:Bool):Prop where
 le:i<=cs.length
 lo: ∀p∈cs.take i,Uf p.1 k
 yes:b=true-> ∃h:i<cs.length,cs[i].1=k
 no:b=false-> ∀p∈cs.drop i,Uf k p.1
theorem Qls {cs:Zn} {k:ByteArray} {i:Nat} (hlo: ∀p∈cs.take i,Uf p.1 k) (hi:i<cs.length) (h:cs[i].1=k):Ls cs k i true:=
 ⟨Nat.le_of_lt hi,hlo,λ_=>⟨hi,h⟩,λe=>by cases e⟩
theorem Q7w {cs:Zn} (hs:Lu cs) {k:ByteArray} {i:Nat} (hi:i<=cs.length) (hlo: ∀p∈cs.take i,Uf p.1 k) (h: ∀h:i<cs.length,Uf k cs[i].1):Ls cs k i false:=by
 refine ⟨hi,hlo,λe=>(by cases e),λ_ p hp=>?_⟩;obtain ⟨j,hj,rfl⟩:=List.mem_iff_getElem.1 hp;rw [List.length_drop] at hj;rw [List.getElem_drop];have h0:=h (by omega);rcases Nat.eq_zero_or_pos j with rfl|hp
 ·exact h0
 ·exact Us h0 (List.pairwise_iff_getElem.1 hs _ _ (by omega) (by omega) (by omega))
theorem Q1o {cs:Zn} {l:List (ByteArray×List Qo)} (h:Jp cs=l) (hs:Yy l):Lu cs:=by
 rw [<-h] at hs;have h2:(cs.map λp=>(p.1,p.2.vs)).Pairwise (λx y:ByteArray×List Qo=>Uf x.1 y.1):=hs;rw [List.pairwise_map] at h2;exact h2
theorem Q99: ∀(l1:List (ByteArray×List Qo)) {l2:List (ByteArray×List Qo)} {k:ByteArray} (c:List Qo),(∀p∈l1,Uf p.1 k)->(∀p∈l2,Uf k p.1)->Z3 (l1++l2) k c=l1++(k,c)::l2
 |[],[],k,c,_,_=>rfl
 |[],x::l2,k,c,_,h2=>by
  have h:=h2 x (List.mem_cons_self ..);rw [List.nil_append,Z3,if_neg (λhh=>Jr _ (Us hh h)),if_neg (λe=>by rw [e] at h;exact Jr _ h)];rfl
 |x::l1,l2,k,c,h1,h2=>by
  rw [List.cons_append,Z3,if_pos (h1 x (List.mem_cons_self ..)),Q99 l1 c (λp hp=>h1 p (List.mem_cons_of_mem _ hp)) h2];rfl
theorem Qeg: ∀(l1:List (ByteArray×List Qo)) {l2:List (ByteArray×List Qo)} {k:ByteArray} (c0 c:List Qo),(∀p∈l1,Uf p.1 k)->Z3 (l1++(k,c0)::l2) k c=l1++(k,c)::l2
 |[],l2,k,c0,c,_=>by
  rw [List.nil_append,Z3,if_neg (Jr _),if_pos rfl];rfl
 |x::l1,l2,k,c0,c,h1=>by
  rw [List.cons_append,Z3,if_pos (h1 x (List.mem_cons_self ..)),Qeg l1 c0 c λp hp=>h1 p (List.mem_cons_of_mem _ hp)];rfl
section
variable {w:World} {s r y o:Nat} {P:ByteArray} {st:Ja} {la:Option Addr} {lc:Nat} {cs:Zn} {ka:Option Addr} {kc:Nat} {K:List Qe}
theorem Q9q (h:Vo w s r y P o st la lc cs ka kc K) (hs:Yy st.keys) (hn:cs.length<=1000000) (k:ByteArray):
  Calls Tryz.prog 125 #[.pointer (some ⟨s,0,none⟩), .string k] w λe w'=> ∃(i:Nat) (b:Bool),e= .returned (.tuple #[.int .i64 (i:Int), .bool b])/\Ls cs k i b/\Kp No w w':=by
 obtain ⟨n,Xw⟩: ∃n,n=cs.length:=⟨_,rfl⟩;have hrd:=Own.rd' h.row;have Oy:=zz (show ∀W,Kp No w W->W.cell? ⟨s,5,none⟩=some (.slice la n lc)/\s<W.heap.size from λW hW=>⟨by rw [h.at_ hW,Xw];rfl,Q7 (hW.get h.cell λx=>x)⟩);have Ky:=zz hrd;have HS:=zz (Q1o h.Vd hs);have HN:=zz Xw;have hfew:n<=1000000:=by omega
 clear h hrd hs hn Xw;go_enter Tryz.func125,Tryz.ntmps125
 go_wp2_with fail
 rename World=>w0;go_loopw [6] (λi wr=> ∃j:Nat,j<=n/\i= .int .i64 (j:Int)/\Hid (∀f∈cs.take j,Uf f.1 k)/\Hid (Kp No w0 wr)) (λi _=>n-(intOf i).toNat)
 case atStart=>exact ⟨0,Nat.zero_le _,rfl,zz (by simp),zz zK⟩
 case round=>
  obtain ⟨j,hj,rfl,HL,M8⟩:=hrel;obtain ⟨c1,hrl⟩:=Oy.out _ M8.out;by_cases hlt:j<n
  ·have Qbm:j<cs.length:=by rw [<-HN.out];exact hlt
   obtain ⟨g,off,rfl,l0⟩:=Zb (f:=Xe) (c:=2) Ya (by decide) Ky.out Qbm;have d0:=l0 _ M8.out 0 _ rfl;rw [Nat.add_zero] at d0;have hgl:g<wr.heap.size:=World.block_lt_of_cell? wr _ d0;have hts:=List.take_succ_eq_append_getElem Qbm;have hyes: ∀hk:cs[j].1=k,(∀p∈cs.take j,Uf p.1 k)->Ls cs k j true:=λhk hlo=>Qls hlo Qbm hk;have hno: ∀hk:Uf k cs[j].1,(∀p∈cs.take j,Uf p.1 k)->Ls cs k j false:=λhk hlo=>Q7w HS.out (Nat.le_of_lt Qbm) hlo λ_=>hk;obtain ⟨q,hq⟩: ∃q,q=cs[j]:=⟨_,rfl⟩;rw [<-hq] at d0 hts hyes hno;obtain ⟨x,hx⟩: ∃x,x=q.1:=⟨_,rfl⟩;rw [<-hx] at hyes hno;have d1:wr.cell? ⟨g,off+j*2,none⟩=some (.string x):=by rw [hx];exact d0
   clear d0;have HT:=zz hts;have HX:=zz hx;rcases Ad x k with hn|hn|hn
   ·have f1:=Q84 hn
    have HL2:Hid (∀f∈cs.take (j+1),Uf f.1 k):=zz λf hf=>by
     rw [HT.out,List.mem_append,List.mem_singleton] at hf;rcases hf with hf|rfl
     ·exact HL.out f hf
     ·rw [<-HX.out];exact hn
    clear l0 hn hx hq hts hyes hno Qbm;go_wp2_with fail
    go_roundw
    case rel=>exact ⟨j+1,by omega,by go_num,HL2,M8⟩
    case measure=>simp [intOf];omega
   ·have f1:=Ab (by rw [hn];exact Jr k: ¬Uf x k);have f2:(x.toList==k.toList)=true:=by rw [hn];exact beq_self_eq_true _
    have Mp:=zz (hyes hn HL.out);clear l0 hn hx hq hts hyes hno Qbm;go_wp2_with fail
    refine zE [0,0,0,0,0,1,1,0,0,0,0,0,1,0,0,0,1,0,0,0,0,0] [0,1,2,3,4,5,6,7,8,9,10,11,12,13,14,15,16,17,18,19,20,21] ?_;repeat (first|refine zA ?_|refine zB ?_|refine zC ?_)
    refine Qa (λnq=>?_);have J9:=zz (M8.out.drewN nq);go_wp2_with fail
    go_ret2
    exact ⟨j,true,rfl,Mp.out,J9.out⟩
   ·have f1:=Ab (λh=>Jr _ (Us h hn): ¬Uf x k)
    have f2:(x.toList==k.toList)=false:=by
     rw [<-beq_toListBytes];exact beq_false_of_ne (λe=>by rw [e] at hn;exact Jr _ hn)
    have Mp:=zz (hno hn HL.out);clear l0 hn hx hq hts hyes hno Qbm;go_wp2_with fail
    refine zE [0,0,0,0,0,1,1,0,0,0,0,0,1,0,0,0,1,0,0,0,0,0] [0,1,2,3,4,5,6,7,8,9,10,11,12,13,14,15,16,17,18,19,20,21] ?_;repeat (first|refine zA ?_|refine zB ?_|refine zC ?_)
    refine Qa (λnq=>?_);have J9:=zz (M8.out.drewN nq);go_wp2_with fail
    go_ret2
    exact ⟨j,false,rfl,Mp.out,J9.out⟩
  ·have hjn:j=n:=by omega
   have Mp:=zz (Q7w HS.out (by rw [<-HN.out];exact hj) HL.out (λh=>by have:=HN.out;omega));subst hjn;clear hlt;go_wp2_with fail
   refine zE [0,0,0,0,0,1,1,0,0,0,0,0,1,0,0,0,1,0,0,0,0,0] [0,1,2,3,4,5,6,7,8,9,10,11,12,13,14,15,16,17,18,19,20,21] ?_;repeat (first|refine zA ?_|refine zB ?_|refine zC ?_)
   refine Qa (λnq=>?_);have J9:=zz (M8.out.drewN nq);go_wp2_with fail
   go_ret2
   exact ⟨j,false,rfl,Mp.out,J9.out⟩
end
theorem Bf (a:Option Addr) (n n' c c':Nat):(Value.slice a n c).ownBlock=(Value.slice a n' c').ownBlock:=by cases a<;>rfl
def Ty (w:World) (t:TypeId) (g:Nat):Prop:= ∃cur,w.heap[g]?=some (.cells cur t (0,0))
theorem Ty.ne {w:World} {t t':TypeId} {g g':Nat} (h:Ty w t g) (h':Ty w t' g') (ht:t≠t'):g≠g':=by
 obtain ⟨c,hc⟩:=h;obtain ⟨c',hc'⟩:=h';exact Qd hc hc' ht
theorem U1.perm {t:TypeId} {w:World} {cs cs':Zn} (h:U1 t w cs) (hp:cs.Perm cs'):U1 t w cs':=
 ⟨λp hm=>h.each p (hp.mem_iff.2 hm),(hp.map _).nodup_iff.1 h.Q00,(hp.filterMap _).nodup_iff.1 h.rows,(hp.map _).nodup_iff.1 h.keys⟩
theorem Q07 {α β:Type} {f g:α->List β}: ∀{l:List α},(∀a∈l,f a=g a)->l.flatMap f=l.flatMap g
 |[],_=>rfl
 |a::l,h=>by rw [List.flatMap_cons,List.flatMap_cons,h a (List.mem_cons_self ..),Q07 λb hb=>h b (List.mem_cons_of_mem _ hb)]
theorem Ke {α:Type} (l:List α) (i:Nat) (x:α):(l++[x]).Perm (l.take i++x::l.drop i):=by
 have h1:(l++[x]).Perm (x::l):=List.perm_append_comm;have h2:(l.take i++x::l.drop i).Perm (x::(l.take i++l.drop i)):=List.perm_middle;rw [List.take_append_drop] at h2;exact h1.trans h2.symm
section
variable {w w' w2:World} {cs:Zn} {la ka:Option Addr} {lc kc:Nat} {K:List Qe} {x r y o:Nat} {P:ByteArray} {st:Ja} {k:ByteArray} {c c':Zs}
theorem Vo.ty (h:Vo w x r y P o st la lc cs ka kc K):Ty w 64 x/\(∀g,(Value.slice la cs.length lc).ownBlock=some g->Ty w 158 g)/\(∀g,K6 cs g->Ty w 148 g\/Ty w 44 g\/Ty w 5 g)/\(∀g,(Value.slice ka K.length kc).ownBlock=some g->Ty w 46 g)/\ ∀z∈K,∀g,z.sl.ownBlock=some g->Ty w 5 g:=by
 refine ⟨⟨_,h.cell⟩,λg hg=>h.row.type g hg,?_,λg hg=>h.kept.own.type g hg,λz hz g hg=>Own.type (h.kept.vals z hz) g hg⟩;rintro g ⟨p,hp,rfl|hg|⟨z,hz,hg⟩⟩
 ·exact .inl ⟨_,(h.Fx.each p hp).cell⟩
 ·exact .inr (.inl ((h.Fx.each p hp).own.type g hg))
 ·exact .inr (.inr (Own.type ((h.Fx.each p hp).vals z hz) g hg))
theorem Q3h (hs:Lu cs) {i:Nat} (hi:i<cs.length) (hk:cs[i].1=k) (hb:c'.b=cs[i].2.b):(Jb cs k c').flatMap Xe=cs.flatMap Xe/\(Jb cs k c').length=cs.length:=by
 have hm:k∈cs.map (·.1):=List.mem_map.2 ⟨cs[i],List.getElem_mem hi,hk⟩;unfold Jb;rw [if_pos hm];refine ⟨?_,List.length_map _⟩;rw [List.flatMap_map];refine Q07 λp hp=>?_;by_cases hpk:p.1=k
 ·rw [if_pos hpk];obtain ⟨j,hj,rfl⟩:=List.mem_iff_getElem.1 hp
  have hij:j=i:=by
   rcases Nat.lt_trichotomy j i with h|h|h
   ·have:=List.pairwise_iff_getElem.1 hs j i hj hi h;rw [hpk,hk] at this;exact absurd this (Jr _)
   ·exact h
   ·have:=List.pairwise_iff_getElem.1 hs i j hi hj h;rw [hpk,hk] at this;exact absurd this (Jr _)
  subst hij;unfold Xe;rw [hb,hk]
 ·rw [if_neg hpk]
theorem Q6z (hs:Lu cs) {i:Nat} (hi:i<cs.length) (hk:cs[i].1=k):Qs cs k=some cs[i].2:=by
 refine Xc (List.pairwise_map.2 (hs.imp λ{a b} h e=>by rw [e] at h;exact Jr _ h)) ?_;rw [<-hk];exact List.getElem_mem hi
theorem Q0n (hs:Lu cs) {i:Nat} (hi:i<cs.length) (hk:cs[i].1=k):Jp (Jb cs k c')=Z3 (Jp cs) k c'.vs:=by
 have he:cs=cs.take i++cs[i]::cs.drop (i+1):=by rw [<-List.drop_eq_getElem_cons hi,List.take_append_drop]
 have hlo: ∀p∈Jp (cs.take i),Uf p.1 k:=λp hp=>by
  obtain ⟨q,hq,rfl⟩:=List.mem_map.1 hp;obtain ⟨j,hj,rfl⟩:=List.mem_iff_getElem.1 hq;rw [List.length_take] at hj;rw [List.getElem_take];have:=List.pairwise_iff_getElem.1 hs j i (by omega) hi (by omega);rw [hk] at this;exact this
 have hnd:((cs.take i++(k,cs[i].2)::cs.drop (i+1)).map (·.1)).Nodup:=by
  rw [<-hk,<-he];exact List.pairwise_map.2 (hs.imp λ{a b} h e=>by rw [e] at h;exact Jr _ h)
 have he2:cs=cs.take i++(k,cs[i].2)::cs.drop (i+1):=by rw [<-hk];exact he
 have e1:Jb cs k c'=cs.take i++(k,c')::cs.drop (i+1):=by
  conv=>lhs;rw [he2]
  exact Vi hnd
 have e2:Jp cs=Jp (cs.take i)++(k,cs[i].2.vs)::Jp (cs.drop (i+1)):=by
  conv=>lhs;rw [he2]
  unfold Jp;rw [List.map_append,List.map_cons]
 rw [e1,e2,Qeg _ _ _ hlo];unfold Jp;rw [List.map_append,List.map_cons]
theorem Vo.Iz (h:Vo w x r y P o st la lc cs ka kc K) (hs:Lu cs) {i:Nat} (hi:i<cs.length) (hki:cs[i].1=k) (hb:c'.b=cs[i].2.b) (hk:Kp (λg=>g=cs[i].2.b\/cs[i].2.row.ownBlock=some g) w w') (hok:Xr 148 w' c') (hrow:c'.row.ownBlock=cs[i].2.row.ownBlock\/ ∀g,c'.row.ownBlock=some g->w.heap.size<=g):
  Vo w' x r y P o {st with keys:=Z3 st.keys k c'.vs} la lc (Jb cs k c') ka kc K:=by
 have hmem:=List.getElem_mem hi;obtain ⟨t1,t2,t3,t4,t5⟩:=h.ty;have hco:=h.Fx.each _ hmem
 have hS: ∀g,(g=cs[i].2.b\/cs[i].2.row.ownBlock=some g)->Ty w 148 g\/Ty w 44 g:=by
  rintro g (rfl|hg)
  ·exact .inl ⟨_,hco.cell⟩
  ·exact .inr (hco.own.type g hg)
 obtain ⟨k1,k2⟩:=Q3h hs hi hki hb;refine ⟨?_,?_,h.Fx.set (by decide) (by decide) (Q6z hs hi hki) hb hk hok hrow,h.kept.keep hk λg hg hh=>?_,?_,h.Ez⟩
 ·rw [k2];exact hk.get h.cell λhh=>(hS _ hh).elim (λt=>t1.ne t (by decide) rfl) λt=>t1.ne t (by decide) rfl
 ·rw [k1,k2];exact h.row.keep hk λg hg hh=>(hS _ hh).elim (λt=>(t2 g hg).ne t (by decide) rfl) λt=>(t2 g hg).ne t (by decide) rfl
 ·rcases hg with hg|⟨z,hz,hg⟩
  ·exact (hS _ hh).elim (λt=>(t4 g hg).ne t (by decide) rfl) λt=>(t4 g hg).ne t (by decide) rfl
  ·exact (hS _ hh).elim (λt=>(t5 z hz g hg).ne t (by decide) rfl) λt=>(t5 z hz g hg).ne t (by decide) rfl
 ·rw [Q0n hs hi hki,h.Vd]
theorem Vo.Qwb (h:Vo w x r y P o st la lc cs ka kc K) {i:Nat} (hsp:Ls cs k i false) (hk:Kp No w w2) {b:Nat} (hok:Xr 148 w2 ⟨b,none,0,[]⟩) (hb:w.heap.size<=b) {a':Option Addr} {l':Nat}
  (ho:Own w2 158 2 (.slice a' (cs.length+1) l') (cs.length+1) ((cs.take i++(k,⟨b,none,0,[]⟩)::cs.drop i).flatMap Xe)) (hr: ∀g,(Value.slice a' (cs.length+1) l').ownBlock=some g->w.heap.size<=g):
  Vo (w2.setCell ⟨x,5,none⟩ (.slice a' (cs.length+1) l')) x r y P o {st with keys:=Z3 st.keys k []} a' l' (cs.take i++(k,⟨b,none,0,[]⟩)::cs.drop i) ka kc K:=by
 have hkn:k∉cs.map (·.1):=λhm=>by
  obtain ⟨p,hp,e⟩:=List.mem_map.1 hm;rw [<-List.take_append_drop i cs] at hp;rcases List.mem_append.1 hp with hp|hp
  ·have:=hsp.lo p hp;rw [e] at this;exact Jr _ this
  ·have:=hsp.no rfl p hp;rw [e] at this;exact Jr _ this
 have h2:=h.Q9 hk;have hxa:=h2.Oo;have hs:Kp (Mer.One x) w2 (w2.setCell ⟨x,5,none⟩ (.slice a' (cs.length+1) l')):=(Kp.refl (Mer.One x) w2).setCell (p:=⟨x,5,none⟩) (.inl (show Mer.One x x from rfl)) _
 have hlen:(cs.take i++(k,(⟨b,none,0,[]⟩:Zs))::cs.drop i).length=cs.length+1:=by
  have:=(Ke cs i (k,(⟨b,none,0,[]⟩:Zs))).length_eq;rw [<-this,List.length_append,List.length_singleton]
 have hxl:=Q7 h.cell
 have hkeys:Jp (cs.take i++(k,(⟨b,none,0,[]⟩:Zs))::cs.drop i)=Z3 st.keys k []:=by
  have e1:st.keys=Jp (cs.take i)++Jp (cs.drop i):=by
   rw [<-h.Vd];unfold Jp;rw [<-List.map_append,List.take_append_drop]
  rw [e1,Q99]
  ·unfold Jp;rw [List.map_append,List.map_cons];rfl
  ·intro p hp;obtain ⟨q,hq,rfl⟩:=List.mem_map.1 hp;exact hsp.lo q hq
  ·intro p hp;obtain ⟨q,hq,rfl⟩:=List.mem_map.1 hp;exact hsp.no rfl q hq
 have hadd:U1 148 w2 (cs++[(k,⟨b,none,0,[]⟩)]):=h.Fx.add hkn hk (λ_ _ x=>x) hok hb (λg hg=>by simp [Zs.row,Value.ownBlock] at hg);have hins:=hadd.perm (Ke cs i _);refine ⟨?_,?_,hins.keep hs λg hg e=>?_,h2.kept.keep hs λg hg e=>hxa.2.2 ((show g=x from e)▸hg),hkeys,h.Ez⟩
 ·have:=Ql h2.cell 5 (.slice a' (cs.length+1) l');rw [hlen];simpa [Ue] using this
 ·rw [hlen]
  exact ho.keep hs λg hg e=>by
   have:=hr g hg;have e:g=x:=e;omega
 ·have e:g=x:=e;subst e;obtain ⟨p,hp,hf⟩:=hg;have hp2:p∈cs++[(k,(⟨b,none,0,[]⟩:Zs))]:=(Ke cs i _).mem_iff.2 hp;rcases List.mem_append.1 hp2 with hp2|hp2
  ·exact hxa.2.1 ⟨p,hp2,hf⟩
  ·rw [List.mem_singleton] at hp2;subst hp2;rcases hf with hf|hf|⟨z,hz,_⟩
   ·have hf:g=b:=hf;omega
   ·simp [Zs.row,Value.ownBlock] at hf
   ·exact absurd hz List.not_mem_nil
theorem Vo.setOf (h:Vo w x r y P o st la lc cs ka kc K) (h5:st.of.length=5) {i:Nat} (hi:i<5) (dn:Z1):
  Vo (((w.setCell ⟨x,8+i*3,none⟩ (.int .i64 dn.seq)).setCell ⟨x,8+i*3+1,none⟩ (.int .i64 dn.m)).setCell ⟨x,8+i*3+2,none⟩ (.int .i64 dn.c)) x r y P o {st with of:=st.of.set i dn} la lc cs ka kc K:=by
 refine h.turn ((((Kp.refl (Mer.One x) w).setCell (p:=⟨x,8+i*3,none⟩) (.inl (show Mer.One x x from rfl)) _).setCell (p:=⟨x,8+i*3+1,none⟩) (.inl (show Mer.One x x from rfl)) _).setCell (p:=⟨x,8+i*3+2,none⟩) (.inl (show Mer.One x x from rfl)) _) ?_ rfl rfl;have h9:=Ql (Ql (Ql h.cell (8+i*3) (.int .i64 dn.seq)) (8+i*3+1) (.int .i64 dn.m)) (8+i*3+2) (.int .i64 dn.c);rw [h9];have hs:=λj=>Fm (of:=st.of) (i:=i) (by omega) dn j;unfold Ue;simp only
 rcases O6 hi with rfl|rfl|rfl|rfl|rfl
 all_goals
  rw [hs 0,hs 1,hs 2,hs 3,hs 4];simp
theorem Vo.Ie (h:Vo w x r y P o st la lc cs ka kc K) {z:Qe} {a':Option Addr} {c2:Nat} (hk:Kp (λg=>(Value.slice ka K.length kc).ownBlock=some g) w w') (ho:Own w' 46 9 (.slice a' (K.length+1) c2) (K.length+1) (K.flatMap recC++recC z))
  (hb:(Value.slice a' (K.length+1) c2).ownBlock=(Value.slice ka K.length kc).ownBlock\/ ∃g,(Value.slice a' (K.length+1) c2).ownBlock=some g/\w.heap.size<=g) (hz:z.ok w):
  Vo (w'.setCell ⟨x,23,none⟩ (.slice a' (K.length+1) c2)) x r y P o {st with kept:=st.kept++[z.r]} la lc cs a' c2 (K++[z]):=by
 have hxa:=h.Oo;obtain ⟨t1,t2,t3,t4,t5⟩:=h.ty;have hcell:=hk.get h.cell λhg=>hxa.2.2 (.inl hg);have hxl:=Q7 h.cell;have hs:Kp (Mer.One x) w' (w'.setCell ⟨x,23,none⟩ (.slice a' (K.length+1) c2)):=(Kp.refl (Mer.One x) w').setCell (p:=⟨x,23,none⟩) (.inl (show Mer.One x x from rfl)) _;have hall:Kp (λg=>g=x\/(Value.slice ka K.length kc).ownBlock=some g) w (w'.setCell ⟨x,23,none⟩ (.slice a' (K.length+1) c2)):=(hk.mono λ_ _ e=> .inr e).trans hs λ_ _ e=> .inl e
 have hnew: ∀g,(Value.slice a' (K.length+1) c2).ownBlock=some g->g≠x:=λg hg e=>by
  rcases hb with hb|⟨g',hb,hg'⟩
  ·exact hxa.2.2 (.inl (by rw [<-hb,hg,e]))
  ·rw [hb] at hg;injection hg with hg;omega
 have hS: ∀g,(g=x\/(Value.slice ka K.length kc).ownBlock=some g)->Ty w 64 g\/Ty w 46 g:=by
  rintro g (rfl|hg)
  ·exact .inl t1
  ·exact .inr (t4 g hg)
 refine ⟨?_,h.row.keep hall λg hg hh=>(hS g hh).elim (λt=>(t2 g hg).ne t (by decide) rfl) λt=>(t2 g hg).ne t (by decide) rfl,h.Fx.keep hall λg hf hh=>?_,⟨?_,λv hv=>?_⟩,h.Vd,by rw [List.map_append,h.Ez];rfl⟩
 ·have:=Ql hcell 23 (.slice a' (K.length+1) c2);rw [List.length_append,List.length_singleton];simpa [Ue] using this
 ·rcases t3 g hf with t|t|t<;>exact (hS g hh).elim (λu=>t.ne u (by decide) rfl) λu=>t.ne u (by decide) rfl
 ·rw [List.length_append,List.length_singleton,List.flatMap_append,List.flatMap_cons,List.flatMap_nil,List.append_nil];exact ho.keep hs λg hg e=>hnew g hg e
 ·have hval:v.ok w:=by
   rcases List.mem_append.1 hv with hv|hv
   ·exact h.kept.vals v hv
   ·rw [List.mem_singleton] at hv;rw [hv];exact hz
  exact Qm.ok.apart hval hall λg hg cur J5=>(hS g hg).elim (λt=>t.ne ⟨cur,J5⟩ (by decide) rfl) λt=>t.ne ⟨cur,J5⟩ (by decide) rfl
end
open Go.Maps
section
variable {w w1 wr w2:World} {s d l o m B tb:Nat} {P:ByteArray} {st:Ja} {cs cs':Zn} {ka:Option Addr} {kc:Nat} {K:List Qe} {t1 t2:Int} {V:List ByteArray}
theorem Qfh {c':Zs} {q:ByteArray×Zs} {n:Nat} (hq:q∈cs) (hF: ∀g,Qrx c' g->Qrx q.2 g\/n<=g): ∀g,K6 (Jb cs q.1 c') g->K6 cs g\/n<=g:=by
 rintro g ⟨p,hp,hf⟩
 have key:p∈cs\/p.2=c':=by
  unfold Jb at hp;split at hp
  ·obtain ⟨z,hz,rfl⟩:=List.mem_map.1 hp;by_cases Qtb:z.1=q.1
   ·rw [if_pos Qtb];exact .inr rfl
   ·rw [if_neg Qtb];exact .inl hz
  ·rcases List.mem_append.1 hp with hp|hp
   ·exact .inl hp
   ·rw [List.mem_singleton] at hp;rw [hp];exact .inr rfl
 rcases key with hp|hp
 ·exact .inl ⟨p,hp,hf⟩
 ·rw [hp] at hf;exact (hF g hf).imp (λh=>⟨q,hq,h⟩) id
end
end Go.Proofs.YtgnkmjeoaoongaaGreatDoor
namespace Go.Mer
open Go
inductive Dk where
 |leaf (ord:List Nat)
 |fork (pre:List Nat) (i j:Nat) (ti tj:Dk)
def Dk.len:Dk->Nat
 | .leaf o=>o.length
 | .fork pre _ _ ti _=>pre.length+(ti.len+1)
section
variable {P:Program} {ops:Array Oper} {Q:Exit->Act->World->Prop} {S:World->Prop} {ks:List Nat}
def Af (ops:Array Oper) (ks:List Nat) (k:Array Bool->Bool):List Nat->Array Bool->Bool
 |[],listed=>k listed
 |x::rest,listed=>(Region.ready .any ops listed).contains x&&Region.free .any ops listed x&&ks.getD x 2==0&&Af ops ks k rest (listed.setIfInBounds x true)
def Nb (ops:Array Oper) (ks:List Nat):Dk->Array Bool->Bool
 | .leaf o,listed=>Nx ops ks o listed
 | .fork pre i j ti tj,listed=>ti.len==tj.len&&Af ops ks (λl=>Region.ready .any ops l==[i,j]&&ks.getD i 2==2&&ks.getD j 2==2&&Nb ops ks ti (l.setIfInBounds i true)&&Nb ops ks tj (l.setIfInBounds j true)) pre listed
def Qtj (ops:Array Oper) (ks:List Nat) (t:Dk):Bool:=Region.noSelect ops&&t.len==ops.size&&Nb ops ks t (Array.replicate ops.size false)
def goes (K:Act->World->Prop):Exit->Act->World->Prop
 | .normal,a,w=>K a w
 |_,_,_=>False
def Va (P:Program) (ops:Array Oper) (ks:List Nat) (S:World->Prop) (Q:Exit->Act->World->Prop):Dk->Act->World->Prop
 | .leaf o,a,w=>Ji P ops ks S Q o a w
 | .fork pre i j ti tj,a,w=>Ji P ops ks S (goes λa w=>S w/\Ji P ops ks S (goes (Va P ops ks S Q ti)) [i] a w/\Ji P ops ks S (goes (Va P ops ks S Q tj)) [j] a w) pre a w
theorem Qng {Q1 Q2:Exit->Act->World->Prop} {o:Oper} {a:Act} {w:World} {K:Act->World->Prop} (h:o.wp P a w K (only Q1)):o.wp P a w K Q2:=by
 unfold Oper.wp at*;generalize (execOp a.eval o).run P w=r at*
 cases r with
 |ok n w'=>
  cases n<;>simp only [Oper.upon] at h⊢
  case value=>exact h
  case skip=>exact h
  case defer=>exact h
  case row=>exact h
  case enter f args=>
   refine Calls.mono h λe w'' he=>?_;cases e with
   |returned v=>exact he
   |panicked c=>exact he.elim
   |outgrown=>obtain ⟨_,_,h⟩:=he;exact h.elim
 |halt x w'=>cases x<;>simp only [Oper.upon] at h⊢;exact h.elim
theorem Qhk {Q1 Q2:Exit->Act->World->Prop} {i:Nat} {K:Act->World->Prop} {a:Act} {w:World} (h:wpOp P ops (only Q1) i K a w):wpOp P ops (only Q2) i K a w:=by
 unfold wpOp at*;split
 ·rename_i hn;simp only [hn] at h;exact h
 ·rename_i o ho
  simp only [ho] at h;split
  ·rename_i hw
   simp only [hw,if_true] at h;exact .inl (h.elim Qng λ⟨_,_,_,hh⟩=>hh.elim)
  ·rename_i hw;simp only [hw] at h;exact h
theorem B2 (hSd: ∀w n,S w->S (w.drewN n)) (hs:Region.noSelect ops=true) {k:Array Bool->Bool} {m:Nat} {K:Act->World->Prop} (hK: ∀listed a w,S w->k listed=true->(∀n,K a (w.drewN n))->Bw P ops ks S (only Q) m listed a w):
  ∀(pre:List Nat) (listed:Array Bool) (a:Act) (w:World),S w->Af ops ks k pre listed=true->Ji P ops ks S (goes K) pre a w->Bw P ops ks S (only Q) (pre.length+m) listed a w
 |[],listed,a,w,hS,hB,h=>by
  rw [List.length_nil,Nat.zero_add];exact hK listed a w hS hB h
 |x::pre,listed,a,w,hS,hB,h=>by
  obtain ⟨o,ho,h⟩:=h;simp only [Af,Bool.and_eq_true,beq_iff_eq] at hB;obtain ⟨⟨⟨hr,hf⟩,hk⟩,hB'⟩:=hB;have Gs:x∈Region.ready .any ops listed:=by simpa using hr
  rw [hk] at h;obtain ⟨v,hy,hK'⟩:=h;rw [List.length_cons,show pre.length+1+m=(pre.length+m)+1 from by omega];exact Q31 hSd ho (by omega) (Region.noSelect_spec hs) (λ_ _ _ h=>h.elim) _ listed a w hS (Region.free_spec ho hf) Gs hy (B2 hSd hs hK pre _ _ _ hS hB' hK')
theorem Q42 {K:Act->World->Prop} {i:Nat} (hi:ks.getD i 2=2) {o:Oper} (ho:ops[i]?=some o) {a:Act} {w:World} (h:Ji P ops ks S (goes K) [i] a w) (n:Nat):
  wpOp P ops (only Q) i (λa' w'=>S w'/\ ∀m,K a' (w'.drewN m)) a (w.drewN n):=by
 obtain ⟨o',ho',h⟩:=h;rw [ho] at ho';injection ho' with ho';subst ho';rw [hi] at h;exact Qhk (h n)
theorem O0 (hSd: ∀w n,S w->S (w.drewN n)) (hs:Region.noSelect ops=true): ∀(t:Dk) (listed:Array Bool) (a:Act) (w:World),S w->
  Nb ops ks t listed=true->Va P ops ks S Q t a w->Bw P ops ks S (only Q) t.len listed a w
 | .leaf o,listed,a,w,hS,hB,h=>Ff hSd hs o listed a w hS hB h
 | .fork pre i j ti tj,listed,a,w,hS,hB,h=>by
  simp only [Nb,Bool.and_eq_true,beq_iff_eq] at hB;refine B2 hSd hs (K:=λa w=>S w/\Ji P ops ks S (goes (Va P ops ks S Q ti)) [i] a w/\Ji P ops ks S (goes (Va P ops ks S Q tj)) [j] a w) (λlisted a w hS hB2 h=>?_) pre listed a w hS hB.2 h;obtain ⟨_,h1,h2⟩:=h 0;simp only [Bool.and_eq_true,beq_iff_eq] at hB2;obtain ⟨⟨⟨⟨hr,hi⟩,hj⟩,Jg3⟩,Jg4⟩:=hB2;refine ⟨λh0=>(by rw [h0] at hr;cases hr),λx hx o ho=>?_⟩;rw [hr] at hx;simp only [List.mem_cons,List.not_mem_nil,or_false] at hx;rcases hx with rfl|rfl
  ·rw [if_pos hi];exact λn=>wpOp_mono (λa w hh=>⟨hh.1,O0 hSd hs ti _ a w hh.1 Jg3 (hh.2 0)⟩) (Q42 hi ho h1 n)
  ·rw [if_pos hj];exact λn=>wpOp_mono (λa w hh=>⟨hh.1,by rw [hB.1];exact O0 hSd hs tj _ a w hh.1 Jg4 (hh.2 0)⟩) (Q42 hj ho h2 n)
theorem Ga {id:Nat} {a:Act} {w:World} {l:List Oper} (S:World->Prop) (ks:List Nat) (t:Dk) (hm:P.follows .mixedOrders=true) (hB:Qtj l.toArray ks t=true)
  (hSd: ∀w n,S w->S (w.drewN n)) (hS:S w) (h:Va P l.toArray ks S Q t a w):(Code.region id l.toArray true).wp P Q a w:=by
 simp only [Qtj,Bool.and_eq_true,beq_iff_eq] at hB;refine wp_region_any hm (On _ _ _ _ ?_);have:=Fb _ (Array.replicate l.toArray.size false) a w 1 (O0 hSd hB.1.1 t _ a _ hS hB.2 h);rw [hB.1.2] at this;exact this
theorem Y3 {o:List Nat} {a:Act} {w:World} (h:Ji P ops ks S Q o a w):Va P ops ks S Q (.leaf o) a w:=h
theorem V1 {pre:List Nat} {i j:Nat} {ti tj:Dk} {a:Act} {w:World} (h:Ji P ops ks S (goes λa w=>S w/\Ji P ops ks S (goes (Va P ops ks S Q ti)) [i] a w/\Ji P ops ks S (goes (Va P ops ks S Q tj)) [j] a w) pre a w):Va P ops ks S Q (.fork pre i j ti tj) a w:=h
theorem V0 {i j:Nat} {ti tj:Dk} {a:Act} {w:World} (hS: ∀n,S (w.drewN n)) (h1: ∀n,Ji P ops ks S (goes (Va P ops ks S Q ti)) [i] a (w.drewN n)) (h2: ∀n,Ji P ops ks S (goes (Va P ops ks S Q tj)) [j] a (w.drewN n)):
  Ji P ops ks S (goes λa w=>S w/\Ji P ops ks S (goes (Va P ops ks S Q ti)) [i] a w/\Ji P ops ks S (goes (Va P ops ks S Q tj)) [j] a w) [] a w:=λn=>⟨hS n,h1 n,h2 n⟩
theorem Jy {t:Dk} {a:Act} {w:World} (h: ∀n,Va P ops ks S Q t a (w.drewN n)):Ji P ops ks S (goes (Va P ops ks S Q t)) [] a w:=h
end
end Go.Mer
namespace Go.Proofs.YtgnkmjeoaoongaaGreatDoor
open Go.RowKit Go.Mer
theorem Q9c (u:Nat) (h:u<=4611686018427387904): ∃v:Nat,v<128/\v=u % 128/\bits .and .u64 (u:Int) 127=(v:Int)/\(v:Int) % 256=(v:Int)/\bits .or .u8 (v:Int) 128=((UInt8.ofNat (u % 128+128)).toNat:Int)/\ ∃z:Nat,z=u/128/\(u:Int)/128=(z:Int):=by
 refine ⟨u % 128,Nat.mod_lt _ (by decide),rfl,?_,Int.emod_eq_of_lt (by omega) (by omega),?_,u/128,rfl,(Int.natCast_ediv u 128).symm⟩
 ·have:=Lx (k:= .u64) rfl (a:=u) (b:=127) (show u<2^64 by omega) (by decide);rw [show (127:Nat)=2^7-1 from rfl,Nat.and_two_pow_sub_one_eq_mod u 7] at this;exact this
 ·rw [Lz];have:=Q5g (u % 128);rw [Int.emod_eq_of_lt (by omega) (by omega)] at this;rw [this];congr 1
  omega
theorem Oi (n:Nat) (hn:n<=4611686018427387904) (w:World):Calls Tryz.prog 69 #[.int .i64 (n:Int)] w (Qda w (Qq n)):=by
 have d1:decide ((4611686018427387904:Int)<(n:Int))=false:=by rw [decide_eq_false_iff_not];omega
 by_cases h0:0<n
 ·have d2:decide ((0:Int)<(n:Int))=true:=by rw [decide_eq_true_iff];omega
  have hmod:(n:Int) % 18446744073709551616=(n:Int):=Int.emod_eq_of_lt (by omega) (by omega);go_enter Tryz.func69,Tryz.ntmps69
  go_wp2_with fail
  rename World=>w0;go_loopw [3,4] (λs3 s4 wr=> ∃(u:Nat) (a:Option Addr) (k c:Nat),u<=4611686018427387904/\s3= .int .u64 (u:Int)/\s4= .slice a k c/\Hid (Q6j w0 wr n u a k c)) (λs3 _ _=>(intOf s3).toNat)
  case atStart=>exact ⟨n,none,0,0,by omega,rfl,rfl,zz ⟨[],rfl,rfl,Mer.Own.nil _ _ _,λg h=>(by cases h),Kp.refl _ _⟩⟩
  case round=>
   obtain ⟨u,a,k,c,hu,rfl,rfl,HR⟩:=hrel;obtain ⟨xs,hk,hnum,hown,hfr,hkp⟩:=HR.out
   have hkl:k<=10:=by
    have h1:=J4 hn;rw [hnum,List.length_append] at h1;omega
   by_cases hlt:128<=u
   ·have e1:decide ((128:Int)<=(u:Int))=true:=by rw [decide_eq_true_iff];omega
    have e2:decide (128<=u)=true:=decide_eq_true hlt;obtain ⟨v,hv1,hv2,b1,b2,b3,z,hz,b4⟩:=Q9c u hu;obtain ⟨a',c',w',hrun,ho,hf,hk'⟩:=Fo w0 wr (.slice a k c) xs (UInt8.ofNat (u % 128+128)) (by rw [hk];exact hown) hfr hkp (by omega);rw [hk] at hrun ho hf;have hnew:Q6j w0 w' n z a' (k+1) c':=⟨xs++[UInt8.ofNat (u % 128+128)],by rw [List.length_append,hk];rfl,by rw [hnum,Eg hlt,hz,List.append_assoc];rfl,ho,hf,hk'⟩;obtain ⟨x,hx⟩: ∃x:Nat,x=(UInt8.ofNat (u % 128+128)).toNat:=⟨_,rfl⟩;rw [<-hx] at hrun b3;have HX:=zz hrun;have Y4:=zz hnew;have hzu:z<u:=by omega
    have HZ:=zz hz;clear hv2 hz hnum hown hfr hkp hrun ho hf hk' hnew hx hk HR;go_wp2_with (at_builtin;refine wpList_append_run rfl rfl rfl rfl HX.out ?_)
    go_roundw
    case rel=>exact ⟨z,a',k+1,c',by omega,rfl,rfl,Y4⟩
    case measure=>simp [intOf];omega
   ·have e1:decide ((128:Int)<=(u:Int))=false:=by rw [decide_eq_false_iff_not];omega
    have e2:decide (128<=u)=false:=by rw [decide_eq_false_iff_not];omega
    have hm:(u:Int) % 256=(u:Int):=Int.emod_eq_of_lt (by omega) (by omega);obtain ⟨a',c',w',hrun,ho,hf,hk'⟩:=Fo w0 wr (.slice a k c) xs (UInt8.ofNat u) (by rw [hk];exact hown) hfr hkp (by omega);rw [hk] at hrun ho hf;rw [show (UInt8.ofNat u).toNat=u by rw [Ov];omega] at hrun;have hl:Qq n=xs++[UInt8.ofNat u]:=by rw [hnum,Yh (by omega)]
    have hll:(Qq n).length=k+1:=by rw [hl,List.length_append,hk];rfl
    have hfin:Qda w0 (Qq n) (.returned (.slice a' (k+1) c')) w':=⟨a',c',by rw [hll],by rw [hll,hl];exact ho,by rw [hll];exact hf,hk'⟩;have HX:=zz hrun;have Yf:=zz hfin;clear hnum hown hfr hkp hrun ho hf hk' hfin hk hl hll HR;go_wp2_with (at_builtin;refine wpList_append_run rfl rfl rfl rfl HX.out ?_)
    go_ret
    exact Yf.out
 ·have d2:decide ((0:Int)<(n:Int))=false:=by rw [decide_eq_false_iff_not];omega
  have J5q:=zz (show n=0 by omega);go_enter Tryz.func69,Tryz.ntmps69
  go_wp2_with fail
  rename World=>w0;go_loopw [3,4] (λs3 s4 wr=> ∃(u:Nat) (a:Option Addr) (k c:Nat),u<=4611686018427387904/\s3= .int .u64 (u:Int)/\s4= .slice a k c/\Hid (Q6j w0 wr n u a k c)) (λs3 _ _=>(intOf s3).toNat)
  case atStart=>exact ⟨0,none,0,0,by omega,rfl,rfl,zz ⟨[],rfl,by rw [J5q.out];rfl,Mer.Own.nil _ _ _,λg h=>(by cases h),Kp.refl _ _⟩⟩
  case round=>
   obtain ⟨u,a,k,c,hu,rfl,rfl,HR⟩:=hrel;obtain ⟨xs,hk,hnum,hown,hfr,hkp⟩:=HR.out
   have hkl:k<=10:=by
    have h1:=J4 hn;rw [hnum,List.length_append] at h1;omega
   by_cases hlt:128<=u
   ·have e1:decide ((128:Int)<=(u:Int))=true:=by rw [decide_eq_true_iff];omega
    have e2:decide (128<=u)=true:=decide_eq_true hlt;obtain ⟨v,hv1,hv2,b1,b2,b3,z,hz,b4⟩:=Q9c u hu;obtain ⟨a',c',w',hrun,ho,hf,hk'⟩:=Fo w0 wr (.slice a k c) xs (UInt8.ofNat (u % 128+128)) (by rw [hk];exact hown) hfr hkp (by omega);rw [hk] at hrun ho hf;have hnew:Q6j w0 w' n z a' (k+1) c':=⟨xs++[UInt8.ofNat (u % 128+128)],by rw [List.length_append,hk];rfl,by rw [hnum,Eg hlt,hz,List.append_assoc];rfl,ho,hf,hk'⟩;obtain ⟨x,hx⟩: ∃x:Nat,x=(UInt8.ofNat (u % 128+128)).toNat:=⟨_,rfl⟩;rw [<-hx] at hrun b3;have HX:=zz hrun;have Y4:=zz hnew;have hzu:z<u:=by omega
    have HZ:=zz hz;clear hv2 hz hnum hown hfr hkp hrun ho hf hk' hnew hx hk HR;go_wp2_with (at_builtin;refine wpList_append_run rfl rfl rfl rfl HX.out ?_)
    go_roundw
    case rel=>exact ⟨z,a',k+1,c',by omega,rfl,rfl,Y4⟩
    case measure=>simp [intOf];omega
   ·have e1:decide ((128:Int)<=(u:Int))=false:=by rw [decide_eq_false_iff_not];omega
    have e2:decide (128<=u)=false:=by rw [decide_eq_false_iff_not];omega
    have hm:(u:Int) % 256=(u:Int):=Int.emod_eq_of_lt (by omega) (by omega);obtain ⟨a',c',w',hrun,ho,hf,hk'⟩:=Fo w0 wr (.slice a k c) xs (UInt8.ofNat u) (by rw [hk];exact hown) hfr hkp (by omega);rw [hk] at hrun ho hf;rw [show (UInt8.ofNat u).toNat=u by rw [Ov];omega] at hrun;have hl:Qq n=xs++[UInt8.ofNat u]:=by rw [hnum,Yh (by omega)]
    have hll:(Qq n).length=k+1:=by rw [hl,List.length_append,hk];rfl
    have hfin:Qda w0 (Qq n) (.returned (.slice a' (k+1) c')) w':=⟨a',c',by rw [hll],by rw [hll,hl];exact ho,by rw [hll];exact hf,hk'⟩;have HX:=zz hrun;have Yf:=zz hfin;clear hnum hown hfr hkp hrun ho hf hk' hfin hk hl hll HR;go_wp2_with (at_builtin;refine wpList_append_run rfl rfl rfl rfl HX.out ?_)
    go_ret
    exact Yf.out
def J68 (w wr:World) (V:List Nat) (j:Nat) (a:Option Addr) (k c:Nat):Prop:=
 k=((V.take j).flatMap Qq).length/\Mer.Own wr 5 1 (.slice a k c) k (u8s ((V.take j).flatMap Qq))/\(∀g,(Value.slice a k c).ownBlock=some g->w.heap.size<=g)/\Kp No w wr
theorem Qqr (V:List Nat) (hV: ∀n∈V,n<=4611686018427387904) (j:Nat):((V.take j).flatMap Qq).length<=10*V.length:=by
 have key: ∀l:List Nat,(∀n∈l,n<=4611686018427387904)->(l.flatMap Qq).length<=10*l.length:=by
  intro l;induction l with
  |nil=>intro _;exact Nat.le_refl _
  |cons n l ih=>
   intro h;have h1:=J4 (h n (List.mem_cons_self ..));have h2:=ih λx hx=>h x (List.mem_cons_of_mem _ hx);rw [List.flatMap_cons,List.length_append,List.length_cons];omega
 have h1:=key (V.take j) λn hn=>hV n (List.mem_of_mem_take hn);have h2:=List.length_take_le' j V;omega
theorem U0 (w:World) (g c:Nat) (V:List Nat) (t:TypeId) (hV: ∀n∈V,n<=4611686018427387904) (hg:w.heap[g]?=some (.cells (V.map Q51).toArray t (0,0))) (hn:V.length<=100):
  Calls Tryz.prog 75 #[.slice (some ⟨g,0,none⟩) V.length c] w (Qda w (V.flatMap Qq)):=by
 obtain ⟨m,hm⟩: ∃m,m=V.length:=⟨_,rfl⟩;have HG:=zz hg;have HV:=zz hV;have HM:=zz hm;have hgl:=Q7 hg;have hmm:m<=100:=by omega
 rw [<-hm];clear hg hV hn hm;go_enter Tryz.func75,Tryz.ntmps75
 go_wp2_with fail
 rename World=>w0;go_loopw [3,4] (λs3 s4 wr=> ∃(j:Nat) (a:Option Addr) (k c:Nat),j<=m/\s3= .slice a k c/\s4= .int .i64 (j:Int)/\Hid (J68 w0 wr V j a k c)) (λ_ s4 _=>m-(intOf s4).toNat)
 case atStart=>exact ⟨0,none,0,0,Nat.zero_le _,rfl,rfl,zz ⟨rfl,Mer.Own.nil _ _ _,λg h=>(by cases h),Kp.refl _ _⟩⟩
 case round=>
  obtain ⟨j,a,k,c,hj,rfl,rfl,HR⟩:=hrel;rcases Nat.lt_or_ge j m with hlt|hge
  ·have Qq2:j<V.length:=by have:=HM.out;omega
   have bg:=HR.out.2.2.2.get HG.out λx=>x;have Qfv:=Q7 bg
   have cj:wr.cell? ⟨g,j,none⟩=some (.int .i64 ((V[j]:Nat):Int)):=by
    rw [Q4 bg];simp [Q51,Qq2]
   have hVj:=HV.out V[j] (List.getElem_mem Qq2);have hst:V.take (j+1)=V.take j++[V[j]]:=List.take_succ_eq_append_getElem Qq2;obtain ⟨x,hx⟩: ∃x,x=V[j]:=⟨_,rfl⟩;rw [<-hx] at cj hVj hst;have HN:=zz (Oi x hVj wr);have HST:=zz hst;have hl:=Qqr V HV.out j;have hl1:=J4 hVj;have HL:=zz (And.intro hl hl1);clear bg hVj hst hx hl hl1 Qq2;go_wp2_with fail
   refine HN.out.mono ?_;rintro e w2 ⟨b,cb,rfl,hown,hfr,hk2⟩;have hok:Mer.Own w2 5 1 (.slice a k c) ((V.take j).flatMap Qq).length (u8s ((V.take j).flatMap Qq)):=by rw [<-HR.out.1];exact HR.out.2.1.keep hk2 λ_ _ x=>x
   obtain ⟨a',c',w3,h1,h2,h3,h4⟩:=Yb w0 w2 (.slice a k c) ((V.take j).flatMap Qq) (Qq x) hok HR.out.2.2.1 (HR.out.2.2.2.Q0 hk2) b cb (Own.rd' hown) (by have:=HL.out.1;have:=HL.out.2;have:=HM.out;omega);have e1:(V.take (j+1)).flatMap Qq=(V.take j).flatMap Qq++Qq x:=by rw [HST.out,List.flatMap_append,List.flatMap_cons,List.flatMap_nil,List.append_nil]
   obtain ⟨k2,I9⟩: ∃k2,k2=((V.take j).flatMap Qq++Qq x).length:=⟨_,rfl⟩;rw [<-I9] at h1 h2 h3;have HX:=zz h1;have Y4:=zz (show J68 w0 w3 V (j+1) a' k2 c' from ⟨by rw [e1];exact I9,by rw [e1];exact h2,h3,h4⟩);clear hown hfr hk2 hok h1 h2 h3 h4 e1 I9 cj Qfv;go_wp2_with (at_builtin;refine wpList_append_run rfl rfl rfl rfl HX.out ?_)
   go_roundw
   case rel=>exact ⟨j+1,a',k2,c',hlt,rfl,by go_num,Y4⟩
   case measure=>simp [intOf];omega
  ·obtain rfl:m=j:=by omega
   have HE:=zz (show Qda w0 (V.flatMap Qq) (.returned (.slice a k c)) wr from by
    have h:=HR.out;unfold J68 at h;rw [HM.out,List.take_length] at h;obtain ⟨h1,h2,h3,h4⟩:=h;refine ⟨a,c,by rw [h1],?_,?_,h4⟩
    ·rw [<-h1];exact h2
    ·rw [<-h1];exact h3)
   clear hge;go_wp2_with fail
   go_ret
   exact HE.out
theorem Gb (w:World) (a:Option Addr) (c:Nat) (p:List UInt8) (hr:Rd w w.heap.size a (u8s p)) (hl:p.length<=1000000000):
  Calls Tryz.prog 121 #[.slice a p.length c] w (Qda w (Jn p)):=by
 obtain ⟨n,hn⟩: ∃n,n=p.length:=⟨_,rfl⟩;have HN:=zz (Oi n (by omega) w);have HP:=zz (And.intro hr hn);have hnn:n<=1000000000:=by omega
 rw [<-hn];clear hr hl hn;go_enter Tryz.func121,Tryz.ntmps121
 go_wp2_with fail
 refine HN.out.mono ?_;rintro e w2 ⟨b,cb,rfl,hown,hfr,hk2⟩;have hln:=J4 (n:=n) (by omega);obtain ⟨a',c',w3,h1,h2,h3,h4⟩:=Yb w w2 (.slice b (Qq n).length cb) (Qq n) p hown hfr hk2 a c (Rd.kp HP.out.1 hk2) (by have:=HP.out.2;omega);have HX:=zz (show (Builtin.append_ #[42,42] 42 #[.slice b (Qq n).length cb, .slice a n c]).run Tryz.prog w2= .ok (.slice a' (Qq n++p).length c') w3 from by rw [HP.out.2] at h1⊢;exact h1)
 have HE:=zz (show Qda w (Jn p) (.returned (.slice a' (Qq n++p).length c')) w3 from by
  unfold Jn;rw [<-HP.out.2];exact ⟨a',c',rfl,h2,h3,h4⟩)
 obtain ⟨k,hk⟩: ∃k,k=(Qq n).length:=⟨_,rfl⟩;obtain ⟨k2,I9⟩: ∃k,k=(Qq n++p).length:=⟨_,rfl⟩;rw [<-hk,<-I9] at HX;rw [<-I9] at HE;rw [<-hk];clear hown hfr hk2 h1 h2 h3 h4 hln hk I9 HN;go_wp2_with (at_builtin;refine wpList_append_run rfl rfl rfl rfl HX.out ?_)
 go_ret
 exact HE.out
open Go.Maps Go.Sort Go.Shelf
theorem Q1m (mb:Option Nat) (W:World):Calls Tryz.prog 65 #[.map mb] W λe w'=>e= .returned (.func (.func 119) #[] #[.pointer (some ⟨W.heap.size,0,none⟩)])/\w'=W.alloc (.cells #[.map mb] 128):=
 (callsIn_wide (n:=5)).1 (AnyZ.keys_in Tryz.keys65 Fence.wide 5 trivial rfl mb W)
theorem Q5p {H:Type} (b nn:Nat) (D0:DataW H) (R:Value->Option (DataW H×List MemPlace)) (w:World) (hown:w.ownsMap Tryz.prog 9 R b nn D0) (hmax:Maps.size D0<=maxLen) (hbytes:Maps.size D0*16<=140737488355328):
  Calls Tryz.prog 64 #[.func (.func 119) #[] #[.pointer (some ⟨w.heap.size,0,none⟩)]] (w.alloc (.cells #[.map (some b)] 128)) λe w'=> ∃(v:Value) (ss:List (List UInt8)),e= .returned v/\ss.Perm (strKeys D0)/\
   w'.ownsRow (w.alloc (.cells #[.map (some b)] 128)).heap.size 9 1 v ss.length ((ss.mergeSort (λx y=>decide (x<=y))).map encStr)/\(v= .slice none 0 0↔ss=[])/\Below (w.alloc (.cells #[.map (some b)] 128)).heap.size (w.alloc (.cells #[.map (some b)] 128)) w':=by
 have hbl:=hown.lt
 have hseq:SeqGives Fence.wide 2 Tryz.prog 119 #[.pointer (some ⟨w.heap.size,0,none⟩)] encStr (λss=>ss.Perm (strKeys D0)) (Maps.size D0) (w.alloc (.cells #[.map (some b)] 128)):=
  AnyZ.keys_gives (ρ:=Tryz.keys65_ren) {Tryz.keys65 with} Fence.wide _ trivial rfl (by omega) w.heap.size b nn D0 _ (by simp) (by simp) (by
   obtain ⟨es,clock,hb,Ft,hs,hD⟩:=hown;exact ⟨es,clock,(Below.heap_alloc _ _ b hbl).trans hb,Ft,hs,hD⟩)
 exact (callsIn_wide (n:=5)).1 (AnyZ.sorted_in Tryz.sorted64 Fence.wide 5 trivial trivial trivial trivial rfl (by omega) (Q1p _) (enters_of Tryz.func118 (by kernel_rfl) rfl) 119 #[.pointer (some ⟨w.heap.size,0,none⟩)] trivial (enters_of Tryz.func119 (by kernel_rfl) rfl) _ _ hmax hbytes _ hseq)
theorem Bj {w:World} {m:Nat} {l:List (ByteArray×Value)} (h:U2 Value.string w m l) (hl: ∀p∈l,p.1.size<=maxLen) (hn:l.length<=1000000) (N:List ByteArray) (hN:N.Pairwise Uf) (hp:N.Perm (l.map (·.1))):
  Calls Tryz.prog 64 #[.func (.func 119) #[] #[.pointer (some ⟨w.heap.size,0,none⟩)]] (w.alloc (.cells #[.map (some m)] 128)) λe w'=> ∃a c,e= .returned (.slice a N.length c)/\Rd w' w'.heap.size a (N.map Value.string)/\Kp No w w':=by
 obtain ⟨D0,nn,hown,hperm,hsize⟩:=U2.owns h hl (by simp only [maxLen];omega);refine (Q5p m nn D0 _ w hown (by rw [hsize];simp only [maxLen];omega) (by rw [hsize];omega)).mono ?_;rintro e w2 ⟨v,ss,rfl,hs,hrow,_,hb⟩;have hk:Kp No w w2:=((Kp.refl No w).alloc _).Q0 (Kp.of_below hb λk hk hs=>by simp at hk hs;omega)
 have hNs:Xy ss=N:=Qgc (fs:=N.map λk=>(k,⟨[],0⟩)) hN (by rw [List.map_map];exact List.Perm.of_eq (List.map_id N).symm) (by
  rw [List.map_map];refine (hs.trans hperm).trans ?_;have h2:=hp.symm.map (·.data.toList);rw [List.map_map] at h2;exact h2)
 have hxs:(ss.mergeSort λx y=>decide (x<=y)).map encStr=N.map Value.string:=by rw [<-hNs];simp [Xy,encStr]
 have hlen:N.length=ss.length:=by rw [<-hNs];simp [Xy]
 obtain ⟨_,⟨rfl,h0⟩|⟨g,cap,cur,rfl,_,hg,_,_,_,hx⟩⟩:=hrow
 ·have hN0:N=[]:=List.eq_nil_of_length_eq_zero (by omega);subst hN0;exact ⟨none,0,rfl,Rd.nil _ _ _,hk⟩
 ·refine ⟨some ⟨g,0,none⟩,cap,by rw [hlen],?_,hk⟩;refine Rd.row hg ?_ (Q7 hg) (Nat.le_refl _) (n:=ss.length);rw [<-hxs,<-hx];simp
def lenV (cs:Zn) (V:List ByteArray):Nat:=((cs.filter λp=>decide (p.1∈V)).map λp=>p.2.R.length).sum
def Qc2 (cs:Zn):Nat:=(cs.map λp=>p.2.R.length).sum
theorem Qm1 (cs:Zn):lenV cs []=0:=by
 unfold lenV;rw [List.filter_eq_nil_iff.2 (by simp)];rfl
theorem Qg6 {cs:Zn} (hn:(cs.map (·.1)).Nodup) {p:ByteArray×Zs} (hp:p∈cs) {V:List ByteArray} (hV:p.1∉V):lenV cs (p.1::V)=lenV cs V+p.2.R.length:=by
 unfold lenV;rw [((Gj hn hp hV).1.map _).sum_nat,List.map_cons,List.sum_cons];omega
theorem Qe0 (cs:Zn) (V:List ByteArray):lenV cs V<=Qc2 cs:=by
 unfold lenV Qc2;induction cs with
 |nil=>simp
 |cons p l ih=>
  rw [List.filter_cons];split<;>simp only [List.map_cons,List.sum_cons]<;>omega
theorem Qm0 {cs:Zn} {V:List ByteArray} (h: ∀p∈cs,p.1∈V):lenV cs V=Qc2 cs:=by
 unfold lenV Qc2;rw [List.filter_eq_self.2 (by simpa using h)]
theorem Qg5 {w:World} {s d l o m:Nat} {P:ByteArray} {st:Ja} {cs:Zn} {ka:Option Addr} {kc:Nat} {K:List Qe} (h:X6 w s d l P o st m cs ka kc K):Qc2 cs=Z7 st:=by
 have:=(h.perm.map λp=>p.2.length).sum_nat;unfold Z7;rw [<-this];unfold Qc2 Jp;rw [List.map_map];congr 1
 refine List.map_congr_left λp _=>?_;simp [Zs.vs]
theorem Qlp {w:World} {s d l o m:Nat} {P:ByteArray} {st:Ja} {cs:Zn} {ka:Option Addr} {kc:Nat} {K:List Qe} (h:X6 w s d l P o st m cs ka kc K) (hinv:Inv o st) (hc: ∀p∈cs,p.2.R.length<=1000000) (hcn:cs.length<=1000000) (hm:Z7 st<=1000000000):
  Calls Tryz.prog 19 #[.pointer (some ⟨s,0,none⟩)] w λe w'=> ∃a c,e= .returned (.tuple #[.slice a (st.keys.map (·.1)).length c, .int .i64 (Z7 st:Int)])/\Rd w' w'.heap.size a ((st.keys.map (·.1)).map Value.string)/\Kp No w w':=by
 have c7:w.cell? ⟨s,7,none⟩=some (.map (some m)):=h.at_ zK 7;have hsl:=Q7 h.cell;obtain ⟨N,hN⟩: ∃N,N=st.keys.map (·.1):=⟨_,rfl⟩;have hNs:N.Pairwise Uf:=by rw [hN];exact List.pairwise_map.2 hinv.sorted
 have J0p:N.Perm ((Vr cs).map (·.1)):=by
  rw [hN,Ch,<-Vu];exact (h.perm.map (·.1)).symm
 have hsz: ∀p∈Vr cs,p.1.size<=maxLen:=λp hp=>by
  obtain ⟨q,hq,rfl⟩:=List.mem_map.1 hp;have:=(hinv.keys (q.1,q.2.vs) (h.perm.mem_iff.1 (List.mem_map.2 ⟨q,hq,rfl⟩))).2.1;simp only [maxLen];simp only at this
  omega
 have Qt6: ∀p∈cs,∀x∈p.2.R,x.v.val.length<=140737488355328:=λp hp x hx=>by
  have:=(hinv.keys (p.1,p.2.vs) (h.perm.mem_iff.1 (List.mem_map.2 ⟨p,hp,rfl⟩))).2.2.2.2 x.v (List.mem_map.2 ⟨x,hx,rfl⟩);have:=(Zi.1 this.1).2.2.2.1;omega
 rw [<-hN];have hlm:=Qg5 h;rw [<-hlm] at hm⊢;obtain ⟨ob,hrun,hit⟩:=Bg (P:=Tryz.prog) Tryz.underlying128 h.map;have HC:=zz h;have HN:=zz (And.intro hNs (And.intro J0p (And.intro hsz (And.intro Qt6 (And.intro hc hcn)))));have HI:=zz hit;clear h hNs J0p hsz Qt6 hlm hinv hN hc hcn hit;go_enter Tryz.func19,Tryz.ntmps19
 go_wp2_with fail
 rename World=>w0;go_loopg [4] (Mg cs []) (λg n wr=> ∃V,g=Mg cs V/\Hid (Ek Value.string wr w0.heap.size m (Vr cs) V)/\Hid (Kp No w0 wr)/\n= .int .i64 (lenV cs V:Int))
 case atStart=>exact ⟨[],rfl,HI,zz (zK.alloc _),by rw [Qm1];rfl⟩
 case round=>
  obtain ⟨V,rfl,hI,HK,rfl⟩:=hrel;have hle:=Qe0 cs V;rcases Q1f (P:=Tryz.prog) 0 hI.out with ⟨hall,hnext⟩|⟨p,hp,Qvx,n,o',hnext,hI',hent⟩
  ·have ht:=Qm0 (cs:=cs) (V:=V) (λq hq=>hall (q.1,Vk q.2.b) (List.mem_map.2 ⟨q,hq,rfl⟩));have HT:=zz ht;have hC:=HC.out.Q9 HK.out;have Jis:wr.cell? ⟨s,7,none⟩=some (.map (some m)):=hC.at_ zK 7;have Jh4:=Q7 hC.cell;have Qo1:=zz (Bj hC.map HN.out.2.2.1 (by simp only [Vr,List.length_map];exact HN.out.2.2.2.2.2) N HN.out.1 HN.out.2.1);clear ht hall hC hI c7 hsl;go_wp2_with fail
   refine (Q1m _ _).mono ?_;rintro e w1 ⟨rfl,rfl⟩;go_wp2_with fail
   refine Qo1.out.mono ?_;rintro e w2 ⟨a,c,rfl,hr2,k2⟩;have HR:=zz (And.intro hr2 (HK.out.Q0 k2));clear hr2 k2 Qo1;go_wp2_with fail
   go_ret2
   rw [HT.out];exact ⟨a,c,rfl,HR.out⟩
  ·obtain ⟨q,hq,rfl⟩:=List.mem_map.1 hp;have hkn:=HC.out.Fx.keys;have hst:=Qg6 hkn hq (V:=V) Qvx;have hre:=(Gj (V:=V) hkn hq Qvx).2;have J1o:=Qe0 cs (q.1::V);have hrm:w0.heap.size≠m:=hI.out.ne;have hrl:w0.heap.size<wr.heap.size:=hI.out.lt;have hnx:(Instr.next (.pointer (some ⟨w0.heap.size,0,none⟩)) false 0).run Tryz.prog wr= .ok (.tuple #[.bool true, .string q.1, .pointer (some ⟨q.2.b,0,none⟩)]) (ChangeMaps.setBlock (wr.drewN n) w0.heap.size o'):=hnext
   have hen:(Instr.entry (.pointer (some ⟨w0.heap.size,0,none⟩))).run Tryz.prog (ChangeMaps.setBlock (wr.drewN n) w0.heap.size o')= .ok (.tuple #[.string q.1, .pointer (some ⟨q.2.b,0,none⟩)]) (ChangeMaps.setBlock (wr.drewN n) w0.heap.size o'):=
    hent _ (Gr (w:=wr.drewN n) hrl o') (by show (wr.heap.setIfInBounds _ o')[m]?=_;rw [Array.getElem?_setIfInBounds_ne hrm])
   obtain ⟨W2,hW2⟩: ∃W,W=ChangeMaps.setBlock (wr.drewN n) w0.heap.size o':=⟨_,rfl⟩;rw [<-hW2] at hnx hen hI';have hk2:Kp No w0 W2:=by rw [hW2];exact (HK.out.drewN n).setBlock (.inr (Nat.le_refl _)) o'
   have hall:=Qjc W2 q.2 ((HC.out.Q9 hk2).Fx.each q hq) (HN.out.2.2.2.2.1 q hq) (HN.out.2.2.2.1 q hq);have Qcz:=zz hall;have HI2:=zz hI';have J9:=zz hk2;have HST:=zz hst;have Qu8:=zz hre;have hadd:lenV cs V+q.2.R.length<=Qc2 cs:=by rw [<-hst];exact J1o
   obtain ⟨qn,Ql5⟩: ∃k,k=q.2.R.length:=⟨_,rfl⟩;rw [<-Ql5] at Qcz HST hadd;clear hW2 hnext hent hI' hst hre J1o hp Qvx hI hk2 hall hkn Ql5 c7 hsl;go_wp2_with fail
   refine Qcz.out.mono ?_;rintro e W3 ⟨a3,c3,rfl,hA3⟩;have hk3:=hA3.kp;have HI3:=zz (show Ek Value.string W3 w0.heap.size m (Vr cs) (q.1::V) from HI2.out.of_heap (hk3.block _ HI2.out.lt λx=>x) (hk3.block _ HI2.out.map.lt λx=>x));have Zk:=zz (J9.out.Q0 hk3);clear hA3 hk3 Qcz;go_wp2_with fail
   go_roundg (Mg cs (q.1::V))
   case measure=>have:=Qu8.out;omega
   case rel=>exact ⟨q.1::V,rfl,HI3,Zk,by rw [HST.out];go_num⟩
structure Cy where
 key:ByteArray
 val:List UInt8
 a:Option Addr
 cap:Nat
def Cy.p (x:Cy):ByteArray×List UInt8:=(x.key,x.val)
def Cy.sl (x:Cy):Value:= .slice x.a x.val.length x.cap
def Qa4 (x:Cy):List Value:=[.string x.key,x.sl]
theorem Q5j (x:Cy):(Qa4 x).length=2:=rfl
theorem Qe6 (x:Cy): ∀u∈Qa4 x,u.oneCell'=true:=by
 intro u hu;simp only [Qa4,Cy.sl,List.mem_cons,List.not_mem_nil,or_false] at hu;rcases hu with rfl|rfl<;>rfl
theorem Q7l:(Tryz.prog.info? 84).map (λi=>((i.zero.map λz=>z.cells.size),i.size,i.bytes))=some (some 2,2,40):=by kernel_rfl
def Cz (w:World) (l:List (ByteArray×List UInt8)) (er:Int) (e:Ending) (w':World):Prop:=
 ∃(a:Option Addr) (c:Nat) (Q:List Cy),e= .returned (.tuple #[.slice a Q.length c, .int .i64 er])/\Rd w' w'.heap.size a (Q.flatMap Qa4)/\(∀x∈Q,Rd w' w'.heap.size x.a (u8s x.val))/\Q.map Cy.p=l/\Kp No w w'
theorem Q1i {st:Ja} {f t:ByteArray} {m c most:Int} (h:Zq m c st.mm st.mc=true):Y2 st f t m c most=([],19):=if_pos h
theorem Q1h {st:Ja} {f t:ByteArray} {m c most:Int} (h: ¬Zq m c st.mm st.mc=true):Y2 st f t m c most=(Vm m c f t most.toNat st.keys,0):=if_neg h
structure Qi1 (w:World) (st:Ja) (f t:ByteArray) (t1 t2:Int) (M k:Nat) (a:Option Addr) (c:Nat) (Q:List Cy) (wr:World):Prop where
 kp:Kp No w wr
 own:Own wr 84 2 (.slice a Q.length c) Q.length (Q.flatMap Qa4)
 new: ∀g,(Value.slice a Q.length c).ownBlock=some g->w.heap.size<=g
 vals: ∀x∈Q,Own wr 5 1 x.sl x.val.length (u8s x.val)
 eq:Q.map Cy.p=Yn t1 t2 f t M st.keys k
section
variable {w wr W W':World} {st:Ja} {f t:ByteArray} {t1 t2:Int} {M k c c':Nat} {a a':Option Addr} {Q:List Cy}
theorem Qi1.len (h:Qi1 w st f t t1 t2 M k a c Q wr):Q.length=(Yn t1 t2 f t M st.keys k).length/\Q.length<=k:=by
 have h1:=congrArg List.length h.eq;rw [List.length_map] at h1;exact ⟨h1,by rw [h1];exact Ci⟩
theorem Qi1.skip (h:Qi1 w st f t t1 t2 M k a c Q wr) (hk:Kp No wr W) (hkl:k<st.keys.length) (hn:X4 t1 t2 f t st.keys[k]=none\/M<=Q.length):Qi1 w st f t t1 t2 M (k+1) a c Q W:=by
 refine ⟨h.kp.Q0 hk,h.own.keep hk λ_ _ x=>x,h.new,λx hx=>(h.vals x hx).keep hk λ_ _ x=>x,?_⟩;rcases hn with hn|hn
 ·rw [L8 hkl hn];exact h.eq
 ·rw [Q0p hkl (by rw [<-h.len.1];exact hn)];exact h.eq
theorem Qi1.more (h:Qi1 w st f t t1 t2 M k a c Q wr) (hk:Kp No wr W) (hkl:k<st.keys.length) {x:Cy} (hs:X4 t1 t2 f t st.keys[k]=some x.p) (hm:Q.length<M) (hx:Own W 5 1 x.sl x.val.length (u8s x.val))
  (ho:Own W' 84 2 (.slice a' (Q.length+1) c') (Q.length+1) (Q.flatMap Qa4++Qa4 x)) (hk2:Kp (λg=>(Value.slice a Q.length c).ownBlock=some g) W W')
  (hb:(Value.slice a' (Q.length+1) c').ownBlock=(Value.slice a Q.length c).ownBlock\/ ∃g,(Value.slice a' (Q.length+1) c').ownBlock=some g/\W.heap.size<=g):Qi1 w st f t t1 t2 M (k+1) a' c' (Q++[x]) W':=by
 have J2q:=h.kp.Q0 hk
 have hap: ∀{y:Cy},Own W 5 1 y.sl y.val.length (u8s y.val)->Own W' 5 1 y.sl y.val.length (u8s y.val):=λho=>ho.keep hk2 λg hg hh=>by
  obtain ⟨cur,hc⟩:=ho.type g hg;obtain ⟨cur',hc'⟩:=(h.own.keep hk λ_ _ x=>x).type g hh;exact Qd hc hc' (by decide) rfl
 refine ⟨(J2q.trans hk2 λi hi hg=>by have:=h.new i hg;omega),by rw [List.length_append,List.length_singleton,List.flatMap_append,List.flatMap_cons,List.flatMap_nil,List.append_nil];exact ho,λg hg=>?_,λy hy=>?_,?_⟩
 ·rw [List.length_append,List.length_singleton] at hg;rcases hb with hb|⟨g',hb,hg'⟩
  ·exact h.new g (by rw [<-hb];exact hg)
  ·rw [hb] at hg;injection hg with hg;have:=J2q.size;omega
 ·rcases List.mem_append.1 hy with hy|hy
  ·exact hap ((h.vals y hy).keep hk λ_ _ x=>x)
  ·rw [List.mem_singleton.1 hy];exact hap hx
 ·rw [Q0q hkl hs (by rw [<-h.len.1];exact hm),List.map_append,h.eq];rfl
end
theorem Oa (f t key:ByteArray):Xp f t key=(!Op.bytesLess key.toList f.toList&&(t.toList.isEmpty||Op.bytesLess key.toList t.toList)):=by
 unfold Xp;rw [Ij,Ij]
 have e:decide (t.size=0)=t.toList.isEmpty:=by
  rw [Lib.toList_data];show decide (t.data.size=0)=_
  rw [Bool.eq_iff_iff,decide_eq_true_iff,List.isEmpty_iff,Array.toList_eq_nil_iff,Array.size_eq_zero_iff]
 rw [e];by_cases hh:Uf key f
 ·simp [hh]
 ·simp [hh]
theorem Qjk {w:World} {s d l o m:Nat} {P:ByteArray} {st:Ja} {cs:Zn} {ka:Option Addr} {kc:Nat} {K:List Qe} (h:X6 w s d l P o st m cs ka kc K) (hinv:Inv o st) {x:ByteArray×List Qo} (hx:x∈st.keys): ∃c,Qs cs x.1=some c/\(x.1,c)∈cs/\c.vs=x.2:=by
 have h1:Qs st.keys x.1=some x.2:=Xc (Vw hinv.sorted) hx;have h2:=h.chain x.1;rw [h1] at h2;cases hg:Qs cs x.1 with
 |none=>rw [hg] at h2;cases h2
 |some c=>
  rw [hg] at h2;injection h2 with h2;exact ⟨c,rfl,Jc hg,h2.symm⟩
theorem Qgw {w:World} {s d l o m:Nat} {P:ByteArray} {st:Ja} {cs:Zn} {ka:Option Addr} {kc:Nat} {K:List Qe} (h:X6 w s d l P o st m cs ka kc K) (hinv:Inv o st) (hf:Qtl cs) (hcn:cs.length<=1000000) (f t:ByteArray) (t1 t2 most:Int) (ht:t1<=9223372036854775807):
  Calls Tryz.prog 31 #[.pointer (some ⟨s,0,none⟩), .string f, .string t,Xl t1 t2, .int .i64 most] w (Cz w (Y2 st f t t1 t2 most).1 (Y2 st f t t1 t2 most).2):=by
 obtain ⟨w1,hw1⟩: ∃W,W=w.alloc (.cells #[.int .i64 t1, .int .i64 t2] 25):=⟨_,rfl⟩;have k1:Kp No w w1:=by rw [hw1];exact zK.alloc _
 have b1:w1.heap[w.heap.size]?=some (.cells #[.int .i64 t1, .int .i64 t2] 25 (0,0)):=by rw [hw1];exact heap_alloc_new w _
 have c0:w1.cell? ⟨w.heap.size,0,none⟩=some (.int .i64 t1):=Q4 b1 0;have c1:w1.cell? ⟨w.heap.size,1,none⟩=some (.int .i64 t2):=Q4 b1 1;have hl1:=Q7 b1;have hsl:=Q7 h.cell;have hold:=Qe4 (h.Q9 k1) t1 t2;have Yq:=zz k1;have HB1:=zz b1;have HW1:=zz hw1;have H:=zz (And.intro h (And.intro hinv (And.intro hf hcn)));by_cases hlt:Zq t1 t2 st.mm st.mc=true
 ·rw [if_pos hlt] at hold;have HOLD:=zz hold;rw [Q1i hlt];clear h hf k1 b1 hw1 hold hlt hinv hcn;go_enter Tryz.func31,Tryz.ntmps31
  go_upto_region 1 with fail
  rw [<-HW1.out];go_wp2_with fail
  refine HOLD.out.mono ?_;rintro e w2 ⟨rfl,k2⟩;have J9:=zz (Yq.out.Q0 k2);clear k2 c0 c1 hl1;go_wp2_with fail
  exact bodyPost_ret (v:= .tuple #[.slice none 0 0, .int .i64 19]) (by simp [results,Tryz.results31,go_sem]) rfl ⟨none,0,[],rfl,Rd.nil _ _ _,λx hx=>absurd hx List.not_mem_nil,rfl,J9.out⟩
 ·rw [if_neg hlt] at hold;have HOLD:=zz hold;rw [Q1h hlt];obtain ⟨N,hN⟩: ∃N,N=st.keys.map (·.1):=⟨_,rfl⟩;have hNs:N.Pairwise Uf:=by rw [hN];exact List.pairwise_map.2 hinv.sorted
  have J0p:N.Perm ((Vr cs).map (·.1)):=by
   rw [hN,Ch,<-Vu];exact (h.perm.map (·.1)).symm
  have hsz: ∀p∈Vr cs,p.1.size<=maxLen:=λp hp=>by
   obtain ⟨q,hq,rfl⟩:=List.mem_map.1 hp;have:=(hinv.keys (q.1,q.2.vs) (h.perm.mem_iff.1 (List.mem_map.2 ⟨q,hq,rfl⟩))).2.1;simp only [maxLen];simp only at this
   omega
  obtain ⟨n,hn⟩: ∃n,n=N.length:=⟨_,rfl⟩;have hnk:n=st.keys.length:=by rw [hn,hN,List.length_map]
  have hnb:n<=1000000:=by
   have:=h.perm.length_eq;unfold Jp at this;rw [List.length_map] at this;omega
  have Jed:=zz hsz;have HN:=zz (And.intro hNs (And.intro J0p (And.intro hn (And.intro hnk hN))));clear h hf k1 b1 hw1 hold hlt hinv hcn hNs J0p hn hnk hN hsz;go_enter Tryz.func31,Tryz.ntmps31
  go_upto_region 1 with fail
  rw [<-HW1.out];go_wp2_with fail
  refine HOLD.out.mono ?_;rintro e w2 ⟨rfl,k2⟩;have J9:=zz (Yq.out.Q0 k2);have HB2:=zz (k2.get HB1.out λx=>x);have hs2:=J9.out.lt hsl;have HC2:=zz (H.out.1.Q9 J9.out);have c7:w2.cell? ⟨s,7,none⟩=some (.map (some m)):=HC2.out.at_ zK 7;have Qo1:=zz (Bj HC2.out.map Jed.out (by simp only [Vr,List.length_map];exact H.out.2.2.2) N HN.out.1 HN.out.2.1);clear k2 c0 c1 hl1 hsl;go_wp2_with fail
  refine (Q1m _ _).mono ?_;rintro e w3 ⟨rfl,rfl⟩;go_wp2_with fail
  refine Qo1.out.mono ?_;rintro e w4 ⟨na,nc,rfl,hr4,k4⟩;have HR:=zz hr4;have HB4:=zz (k4.get HB2.out λx=>x);have Qx5:=zz (HC2.out.Q9 k4);have Gf:=zz (J9.out.Q0 k4);have hs4:=k4.lt hs2;have HI0:=zz (show Qi1 w4 st f t t1 t2 most.toNat 0 none 0 [] w4 from ⟨Kp.refl _ _,Own.nil _ _ _,λg hg=>by simp [Value.ownBlock] at hg,λx hx=>absurd hx List.not_mem_nil,by rw [L9];rfl⟩);rw [<-HN.out.2.2.1];clear hr4 k4 hs2 c7 Qo1;go_wp2_with fail
  go_loopw [13,31] (λv i wr=> ∃(k lo c:Nat) (a:Option Addr) (Q:List Cy),k<=n/\i= .int .i64 (k:Int)/\v= .slice a lo c/\Hid (lo=Q.length)/\Hid (Qi1 w4 st f t t1 t2 most.toNat k a c Q wr)) (λ_ i _=>n-(intOf i).toNat)
  case atStart=>exact ⟨0,0,0,none,[],Nat.zero_le _,rfl,rfl,zz rfl,HI0⟩
  case round=>
   clear HI0;obtain ⟨k,lo,c,a,Q,hk,rfl,rfl,Kt,HI⟩:=hrel;rcases Nat.lt_or_ge k n with hlt|hge
   ·have Y8:k<st.keys.length:=by have:=HN.out.2.2.2.1;omega
    obtain ⟨x,hx⟩: ∃x,x=st.keys[k]:=⟨_,rfl⟩;obtain ⟨key,hkey⟩: ∃key,key=x.1:=⟨_,rfl⟩
    have Qsq:(N.map Value.string)[k]?=some (.string key):=by
     rw [HN.out.2.2.2.2,List.map_map,List.getElem?_map,List.getElem?_eq_getElem Y8,hkey,hx];rfl
    obtain ⟨g,off,rfl,hgl,_,hgc⟩:=HR.out.at_ Qsq;have ck:wr.cell? ⟨g,off+k,none⟩=some (.string key):=(HI.out.kp.cell (p:=⟨g,off+k,none⟩) hgl λx=>x).trans hgc;have hg3:=HI.out.kp.lt hgl;obtain ⟨cc,hcg,hcm,hcv⟩:=Qjk Qx5.out H.out.2.1 (x:=x) (by rw [hx];exact List.getElem_mem Y8);have J4k:=HI.out.len.2;obtain ⟨bb,hbb⟩: ∃bb,bb=(!Xp f t key||decide (most<=(lo:Int))):=⟨_,rfl⟩;have HX:=zz (And.intro (show ∃h:k<st.keys.length,x=st.keys[k] from ⟨Y8,hx⟩) (And.intro hkey (And.intro hcg (And.intro hcm (And.intro hcv J4k)))));have Gd:=zz hbb;have hin:=Oa f t key;have Q6b:=zz hin;clear Y8 hx hkey Qsq hgc hcg hcm hcv J4k hbb hin hgl;go_upto_region 8 with fail
    go_cut [52] from 35 to 51 (λJi1 wx=>Ji1= .bool bb/\wx=wr)
    case first=>
     cases h1:Op.bytesLess key.toList f.toList with
     |true=>
      obtain rfl:bb=true:=by rw [Gd.out,Q6b.out,h1];rfl
      go_wp2_with fail
      go_meet
      case rel=>exact ⟨rfl,rfl⟩
     |false=>
      by_cases h3:t.toList=[]
      ·have A7:t.toList.isEmpty=true:=by rw [h3];rfl
       have HE:=zz (show Xp f t key=true by rw [Q6b.out,h1,A7];rfl);clear A7;by_cases h5:most<=(lo:Int)
       ·have e5:decide (most<=(lo:Int))=true:=decide_eq_true h5;obtain rfl:bb=true:=by rw [Gd.out,e5,Bool.or_true]
        clear h5;go_wp2_with fail
        go_meet
        case rel=>exact ⟨rfl,rfl⟩
       ·have e5:decide (most<=(lo:Int))=false:=decide_eq_false h5;obtain rfl:bb=false:=by rw [Gd.out,e5,HE.out];rfl
        clear h5;go_wp2_with fail
        go_meet
        case rel=>exact ⟨rfl,rfl⟩
      ·have A7:t.toList.isEmpty=false:=by rw [Bool.eq_false_iff];exact λhh=>h3 (List.isEmpty_iff.1 hh)
       cases h4:Op.bytesLess key.toList t.toList with
       |false=>
        obtain rfl:bb=true:=by rw [Gd.out,Q6b.out,h1,A7,h4];rfl
        clear A7;go_wp2_with fail
        go_meet
        case rel=>exact ⟨rfl,rfl⟩
       |true=>
        have HE:=zz (show Xp f t key=true by rw [Q6b.out,h1,A7,h4];rfl);clear A7;by_cases h5:most<=(lo:Int)
        ·have e5:decide (most<=(lo:Int))=true:=decide_eq_true h5;obtain rfl:bb=true:=by rw [Gd.out,e5,Bool.or_true]
         clear h5;go_wp2_with fail
         go_meet
         case rel=>exact ⟨rfl,rfl⟩
        ·have e5:decide (most<=(lo:Int))=false:=decide_eq_false h5;obtain rfl:bb=false:=by rw [Gd.out,e5,HE.out];rfl
         clear h5;go_wp2_with fail
         go_meet
         case rel=>exact ⟨rfl,rfl⟩
    case rest=>
    obtain ⟨rfl,rfl⟩:=hcut;cases hb:bb with
    |true=>
     obtain ⟨Y8,hx⟩:=HX.out.1
     have HS:=zz (HI.out.skip zK Y8 (by
      have hh:=Gd.out;rw [hb] at hh;rcases Bool.or_eq_true_iff.1 hh.symm with h1|h1
      ·left
       rw [<-hx];exact Iy (by rw [<-HX.out.2.1];simpa using h1)
      ·right
       have h2:=of_decide_eq_true h1;have:=Kt.out;omega))
     clear Y8 hx;go_wp2_with fail
     go_roundw
     case rel=>exact ⟨k+1,lo,c,a,Q,hlt,by go_num,rfl,Kt,HS⟩
     case measure=>simp [intOf];omega
    |false=>
     have Oq:=zz (show Xp f t key=true/\(lo:Int)<most from by
      have hh:=Gd.out;rw [hb] at hh;have h2:=Bool.or_eq_false_iff.1 hh.symm;exact ⟨by simpa using h2.1,by have:=of_decide_eq_false h2.2;omega⟩)
     rename World=>wq;have f7: ∀W,Kp No wq W->W.cell? ⟨s,7,none⟩=some (.map (some m)):=λW hW=>Qx5.out.at_ (HI.out.kp.Q0 hW) 7
     have lk: ∀W,Kp No wq W->(Instr.lookup 128 (.map (some m)) (.string key) false).run Tryz.prog W= .ok (.pointer (some ⟨cc.b,0,none⟩)) W:=λW hW=>by
      rw [G4 (Qx5.out.map.of_heap ((HI.out.kp.Q0 hW).block m Qx5.out.map.lt λx=>x)) key,Vt,HX.out.2.1,HX.out.2.2.1];rfl
     have HXB:=zz (show ∀W,Kp No wq W->W.rangeAt w.heap.size 0 [.int .i64 t1, .int .i64 t2] from λW hW=>by have:=Qg (hW.get (HI.out.kp.get HB4.out λx=>x) λx=>x) 0 2;exact this);have Q48:=zz (λW (hW:Kp No wq W)=>Qdc W cc t1 t2 ht ((Qx5.out.Fx.each _ HX.out.2.2.2.1).Q9 (HI.out.kp.Q0 hW)) (H.out.2.2.1 _ HX.out.2.2.2.1).1 (H.out.2.2.1 _ HX.out.2.2.2.1).2);have Q4w:=HI.out.kp.lt hs4;obtain ⟨cb,hcb⟩: ∃cb,cb=cc.b:=⟨_,rfl⟩;rw [<-hcb] at lk Q48;obtain ⟨og,hog⟩: ∃og,og=Uh cc.vs t1 t2:=⟨_,rfl⟩;rw [<-hog] at Q48;have Qey:=zz (show X4 t1 t2 f t x=og.map λb=>(key,b) from by rw [Ix (by rw [<-HX.out.2.1];exact Oq.out.1),hog,HX.out.2.2.2.2.1,HX.out.2.1]);clear hcb hog ck hg3;go_upto_region 9 with fail
     refine zD No [0,0,0,0,0,0,0,2,0,0,0,0,0] [0,1,2,3,4,5,6,7,8,9,10,11,12] ?_;repeat (first|refine zA ?_|refine zB ?_|refine zC ?_)
     (try (apply Qb rfl rfl rfl;(focus (intro W hW;go_simp;rw [lk W hW];rfl));(focus (go_simp;rfl))))
     repeat (first|refine zA ?_|refine zB ?_|refine zC ?_)
     apply Qb rfl rfl rfl
     ·intro W hW;exact Qc 25 _ rfl w.heap.size 0 rfl [.int .i64 t1, .int .i64 t2] _ (HXB.out W hW) Tryz.underlying25 rfl (by kernel_rfl)
     ·(focus (go_simp;rfl))
     refine Q8 rfl rfl (λq=>?_);go_wp2_with fail
     refine (Q48.out _ ((Kp.refl No wq).drewN _)).mono ?_;cases og with
     |none=>
      rintro e w5 ⟨rfl,k5⟩;have Ht:Kp No wq w5:=k5.Qf;go_wp2_with fail
      (try refine ⟨Ht,?_⟩)
      repeat (first|refine zA ?_|refine zB ?_|refine zC ?_)
      refine Qa (λnq=>?_);obtain ⟨Y8,hx⟩:=HX.out.1;have HS:=zz (HI.out.skip (Ht.drewN nq) Y8 (.inl (by rw [<-hx,Qey.out];rfl)));clear k5 Ht f7 lk Y8 hx;go_wp2_with fail
      go_roundw
      case rel=>exact ⟨k+1,lo,c,a,Q,hlt,by go_num,rfl,Kt,HS⟩
      case measure=>simp [intOf];omega
     |some l0=>
      rintro e w5 ⟨a5,c5,rfl,Qbp,hf5,k5⟩;have Ht:Kp No wq w5:=k5.Qf;obtain ⟨n5,Q7c⟩: ∃n5,n5=l0.length:=⟨_,rfl⟩;rw [<-Q7c] at Qbp hf5⊢;have HO:=zz (And.intro Qbp Q7c);clear Qbp hf5 Q7c;go_wp2_with fail
      (try refine ⟨Ht,?_⟩)
      repeat (first|refine zA ?_|refine zB ?_|refine zC ?_)
      refine Qa (λnq=>?_);obtain ⟨w6,hw6⟩: ∃W,W=w5.drewN nq:=⟨_,rfl⟩;have k6:Kp No wq w6:=by rw [hw6];exact Ht.drewN nq
      have Ib:Own w6 5 1 (.slice a5 n5 c5) n5 (u8s l0):=by rw [hw6];exact HO.out.1.drewN nq
      rw [<-hw6];obtain ⟨a9,c9,W9,hrun,Q0f,hk9,Gl⟩:=Og (T:=80) (E:=84) (sz:=2) (bytes:=40) Tryz.underlying80 Q7l (W:=w6) (HI.out.own.keep k6 λ_ _ x=>x) (news:=Qa4 ⟨key,l0,a5,c5⟩) (Qe6 _) rfl (cs:= #[.string key, .slice a5 n5 c5]) (by rw [HO.out.2];rfl) (by have:=HX.out.2.2.2.2.2;omega) (by have:=HX.out.2.2.2.2.2;omega);obtain ⟨Y8,hx⟩:=HX.out.1
      have hmo:=HI.out.more (x:=⟨key,l0,a5,c5⟩) k6 Y8 (by rw [<-hx,Qey.out];rfl) (by have:=Oq.out.2;have:=Kt.out;omega) (by
       show Own w6 _ 1 (.slice a5 l0.length c5) l0.length (u8s l0)
       rw [<-HO.out.2];exact Ib) Q0f hk9 Gl
      rw [<-Kt.out] at hrun;have Hz:=zz hrun;have Qyq:=zz hmo;have Qyo:=zz (show lo+1=(Q++[(⟨key,l0,a5,c5⟩:Cy)]).length by rw [List.length_append,List.length_singleton,Kt.out]);clear k5 Ht f7 lk hw6 k6 Ib hrun Q0f hk9 Gl Y8 hx hmo;go_wp2_with (at_builtin;refine wpList_append_run rfl rfl rfl rfl Hz.out ?_)
      go_roundw
      case rel=>exact ⟨k+1,lo+1,c9,a9,Q++[⟨key,l0,a5,c5⟩],hlt,by go_num,rfl,Qyo,Qyq⟩
      case measure=>simp [intOf];omega
   ·obtain rfl:n=k:=by omega
    clear hge
    have HE:=zz (show Cz w (Vm t1 t2 f t most.toNat st.keys) 0 (.returned (.tuple #[.slice a lo c, .int .i64 0])) wr from ⟨a,c,Q,by rw [Kt.out],Own.rd' HI.out.own,λx hx=>Own.rd' (HI.out.vals x hx),by
     rw [HI.out.eq,HN.out.2.2.2.1,Ki],Gf.out.Q0 HI.out.kp⟩)
    go_wp2_with fail
    go_ret2
    exact HE.out
end Go.Proofs.YtgnkmjeoaoongaaGreatDoor
