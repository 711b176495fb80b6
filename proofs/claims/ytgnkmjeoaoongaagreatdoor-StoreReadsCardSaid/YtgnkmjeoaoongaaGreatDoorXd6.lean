/-
  WFit2, STrimP, SAllC, STrims, Tree.
-/
import Derived.Test.YtgnkmjeoaoongaaGreatDoorXd3
import Derived.Test.YtgnkmjeoaoongaaGreatDoorXd5
set_option maxRecDepth 100000
set_option maxHeartbeats 4000000
namespace Go.Mer
open Go Go.RowKit Go.MapKept
open Go.ChangeMaps (setBlock)
theorem Q16 {K β:Type} [DecidableEq K] (l:List (K×β)) (k q:K):Qo (X3 l k) q=if q=k then none else Qo l q:=by
 unfold Qo X3;rw [List.find?_filter];by_cases h:q=k
 ·rw [if_pos h,List.find?_eq_none.2]
  ·rfl
  ·intro x _ hx;simp only [decide_eq_true_eq,ne_eq] at hx;exact hx.1 (hx.2.trans h)
 ·rw [if_neg h];congr 1
  congr 1
  funext x
  by_cases hx:x.1=q
  ·simp [hx,h]
  ·simp [hx]
end Go.Mer
namespace Go.Proofs.YtgnkmjeoaoongaaGreatDoor
open Go.RowKit Go.Mer
abbrev Dh:=List (ByteArray×List Qf)
def Yy (l:Dh) (V:List ByteArray) (m c:Int):Dh:=
 (l.map λp=>if p.1∈V then (p.1,Zl p.2 m c) else p).filter λp=>decide (p.1∉V\/p.2≠[])
def Vt (l:Dh) (V:List ByteArray) (m c:Int):Nat:=((l.filter λp=>decide (p.1∈V)).map λp=>Jb p.2 m c).sum
theorem Qd4 (l:Dh) (m c:Int):Yy l [] m c=l:=by
 unfold Yy;simp
theorem Nt (p:ByteArray×List Qf) (l:Dh) (V:List ByteArray) (m c:Int):Yy (p::l) V m c=if p.1∈V then (if Zl p.2 m c=[] then Yy l V m c else (p.1,Zl p.2 m c)::Yy l V m c) else p::Yy l V m c:=by
 unfold Yy;rw [List.map_cons,List.filter_cons];by_cases h:p.1∈V
 ·rw [if_pos h,if_pos h];by_cases h2:Zl p.2 m c=[]
  ·rw [if_pos h2,if_neg (by simp [h,h2])]
  ·rw [if_neg h2,if_pos (by simp [h2])]
 ·rw [if_neg h,if_neg h,if_pos (by simp [h])]
theorem Qd2 {l:Dh} {V:List ByteArray} (h: ∀p∈l,p.1∈V) (m c:Int):Yy l V m c=Fi l m c:=by
 induction l with
 |nil=>rfl
 |cons p l ih=>
  have ih:=ih λq hq=>h q (List.mem_cons_of_mem _ hq);rw [Nt,if_pos (h p (List.mem_cons_self ..)),ih];unfold Fi;rw [List.map_cons,List.filter_cons];by_cases h2:Zl p.2 m c=[]
  ·rw [if_pos h2,if_neg (by simp [h2])]
  ·rw [if_neg h2,if_pos (by simp [h2])]
theorem Q1r {l:Dh} {V:List ByteArray} {m c:Int} {p:ByteArray×List Qf} (h:p∈Yy l V m c): ∃q∈l,q.1=p.1/\((p.1∉V/\p=q)\/(p.1∈V/\p.2=Zl q.2 m c/\p.2≠[])):=by
 unfold Yy at h;obtain ⟨h1,h2⟩:=List.mem_filter.1 h;obtain ⟨q,hq,rfl⟩:=List.mem_map.1 h1;refine ⟨q,hq,?_⟩;by_cases hV:q.1∈V
 ·rw [if_pos hV] at h2⊢;have h3:=of_decide_eq_true h2;exact ⟨rfl, .inr ⟨hV,rfl,h3.resolve_left λx=>x hV⟩⟩
 ·rw [if_neg hV];exact ⟨rfl, .inl ⟨hV,rfl⟩⟩
theorem Kj {l:Dh} (hs:Je l) (V:List ByteArray) (m c:Int):Je (Yy l V m c):=by
 induction l with
 |nil=>exact List.Pairwise.nil
 |cons p l ih=>
  obtain ⟨h1,h2⟩:=List.pairwise_cons.1 hs;have ih:=ih h2
  have hb: ∀q∈Yy l V m c,Ug p.1 q.1:=λq hq=>by
   obtain ⟨z,hz,e,_⟩:=Q1r hq;rw [<-e];exact h1 z hz
  rw [Nt];split
  ·split
   ·exact ih
   ·exact List.pairwise_cons.2 ⟨hb,ih⟩
  ·exact List.pairwise_cons.2 ⟨hb,ih⟩
theorem Ve {l:Dh} (hs:Je l) (V:List ByteArray) (m c:Int) (k:ByteArray):Qo (Yy l V m c) k=if k∈V then (match Qo l k with|none=>none|some x=>if Zl x m c=[] then none else some (Zl x m c)) else Qo l k:=by
 induction l with
 |nil=>unfold Yy;split<;>rfl
 |cons p l ih=>
  obtain ⟨h1,h2⟩:=List.pairwise_cons.1 hs;have ih:=ih h2;rw [Nt,Jz];by_cases hk:p.1=k
  ·have hno:Qo (Yy l V m c) k=none:=Ya λhm=>by
    obtain ⟨q,hq,e⟩:=List.mem_map.1 hm;obtain ⟨z,hz,e2,_⟩:=Q1r hq;have:=h1 z hz;rw [e2,e,<-hk] at this;exact J5 _ this
   rw [if_pos hk];subst hk;by_cases hV:p.1∈V
   ·rw [if_pos hV,if_pos hV];simp only
    split
    ·exact hno
    ·rw [Jz,if_pos rfl]
   ·rw [if_neg hV,if_neg hV,Jz,if_pos rfl]
  ·rw [if_neg hk];split
   ·split
    ·exact ih
    ·rw [Jz,if_neg hk];exact ih
   ·rw [Jz,if_neg hk];exact ih
theorem Q8y (l:Dh) (m c:Int):Vt l [] m c=0:=by
 unfold Vt;rw [List.filter_eq_nil_iff.2 (by simp)];rfl
theorem Q6g {l:Dh} (hs:Je l) {p:ByteArray×List Qf} (hp:p∈l) {V:List ByteArray} (hV:p.1∉V) (m c:Int):Vt l (p.1::V) m c=Vt l V m c+Jb p.2 m c:=by
 unfold Vt;rw [((Eo (Xh hs) hp hV).1.map _).sum_nat,List.map_cons,List.sum_cons];omega
theorem Q8x {st:J7} {V:List ByteArray} (h: ∀p∈st.keys,p.1∈V) (m c:Int):Vt st.keys V m c=Fb st m c:=by
 unfold Vt Fb;rw [List.filter_eq_self.2 (by simpa using h)]
theorem Qd1 (st:J7) (V:List ByteArray) (m c:Int):Vt st.keys V m c<=Zy st:=by
 unfold Vt Zy;induction st.keys with
 |nil=>simp
 |cons p l ih=>
  have:=Q6f p.2 m c;rw [List.filter_cons];split<;>simp only [List.map_cons,List.sum_cons]<;>omega
theorem Q6h {l:Dh} {V:List ByteArray} {m c:Int} (hs:Je l) {k:ByteArray} {x:List Qf} (hg:Qo (Yy l V m c) k=some x) (hV:k∉V):(k,x)∈l:=by
 rw [Ve hs,if_neg hV] at hg;exact Qw hg
theorem Qd5 {cs:Z7} {l:Dh} {V:List ByteArray} {m c:Int} (hs:Je l) (hp:(J3 cs).Perm (Yy l V m c)) (hn:(cs.map (·.1)).Nodup) {k:ByteArray} {c0 c':Ja} (hk:Qo cs k=some c0) (hV:k∉V) (hv:c'.vs=Zl c0.vs m c) (hne:c'.vs≠[]):
  (J3 (Qt cs k c')).Perm (Yy l (k::V) m c):=by
 have hl:Qo l k=some c0.vs:=by
  have h1:=Zb hp (by rw [Za];exact hn) k;rw [Uk,hk,Ve hs,if_neg hV] at h1;exact h1.symm
 refine Fl (by rw [Za];exact Hm hn k c') (Xh (Kj hs _ m c)) λq=>?_;rw [Hi,Ve hs];by_cases hq:q=k
 ·subst hq;rw [D7,if_pos (List.mem_cons_self ..),hl];simp only
  rw [<-hv,if_neg hne]
 ·rw [K9 _ _ hq,Zb hp (by rw [Za];exact hn) q,Ve hs];simp only [List.mem_cons,hq,false_or]
theorem Qd3 {cs:Z7} {l:Dh} {V:List ByteArray} {m c:Int} (hs:Je l) (hp:(J3 cs).Perm (Yy l V m c)) (hn:(cs.map (·.1)).Nodup) {k:ByteArray} {c0:Ja} (hk:Qo cs k=some c0) (hV:k∉V) (hne:Zl c0.vs m c=[]):
  (J3 (X3 cs k)).Perm (Yy l (k::V) m c):=by
 have hl:Qo l k=some c0.vs:=by
  have h1:=Zb hp (by rw [Za];exact hn) k;rw [Uk,hk,Ve hs,if_neg hV] at h1;exact h1.symm
 have hsub:((X3 cs k).map (·.1)).Nodup:=hn.sublist (List.filter_sublist.map _);have e:J3 (X3 cs k)=X3 (J3 cs) k:=I2 Ja.vs cs k;refine Fl (by rw [Za];exact hsub) (Xh (Kj hs _ m c)) λq=>?_;rw [e,Q16,Ve hs];by_cases hq:q=k
 ·subst hq;rw [if_pos rfl,if_pos (List.mem_cons_self ..),hl];simp only
  rw [if_pos hne]
 ·rw [if_neg hq,Zb hp (by rw [Za];exact hn) q,Ve hs];simp only [List.mem_cons,hq,false_or]
theorem Q14 {β:Type} (l:List (ByteArray×β)) (k:ByteArray) (v:β) (h:k∈l.map (·.1)):X3 (Qt l k v) k=X3 l k:=by
 unfold Qt;rw [if_pos h];unfold X3;induction l with
 |nil=>rfl
 |cons p l ih=>
  have key: ∀l:List (ByteArray×β),(l.map λp=>if p.1=k then (k,v) else p).filter (λp=>decide (p.1≠k))=l.filter λp=>decide (p.1≠k):=by
   intro l;induction l with
   |nil=>rfl
   |cons p l ih=>
    rw [List.map_cons,List.filter_cons,List.filter_cons,ih];by_cases hp:p.1=k
    ·simp [hp]
    ·simp [hp]
  exact key (p::l)
section
variable {t:TypeId} {w w':World} {s d l o m:Nat} {P:ByteArray} {st:J7} {cs cs':Z7} {ka:Option Addr} {kc:Nat} {K:List Qa} {k:ByteArray} {c:Ja}
theorem Xn.sub (h:Xn t w cs) (hs:cs'.Sublist cs):Xn t w cs':=
 ⟨λp hp=>h.each p (hs.subset hp),h.C0.sublist (hs.map _),h.rows.sublist (hs.filterMap _),h.keys.sublist (hs.map _)⟩
theorem B6 (cs:Z7) (k:ByteArray):(X3 cs k).Sublist cs:=List.filter_sublist
theorem Yt.Qfl (h:Yt w s d l P o st m cs ka kc K) (hk:Kp (Mer.One m) w w') (hm:Vi Value.string w' m (X3 (Y3 cs) k)) {keys':Dh} (hp:(J3 (X3 cs k)).Perm keys'):
  Yt w' s d l P o {st with keys:=keys'} m (X3 cs k) ka kc K:=by
 obtain ⟨es,ck,hm0,_⟩:=id h.map;refine ⟨hk.get h.cell λe=>h.Af e,by rw [show Y3 (X3 cs k)=X3 (Y3 cs) k from I2 (λc:Ja=>Xg c.b) cs k];exact hm,(h.Vl.keep hk λg hf e=>?_).sub (B6 cs k),h.kept.keep hk λg hf e=>?_,hp,h.Gn⟩
 ·have e:g=m:=e;rw [e] at hf;obtain ⟨p,hp,hf|hf|⟨x,hx,hf⟩⟩:=hf
  ·exact (h.Q5f hp).1 hf
  ·exact (h.Q5f hp).2 hf
  ·obtain ⟨cur,Uu⟩:=Own.type ((h.Vl.each p hp).vals x hx) _ hf;exact Zc Uu hm0 rfl
 ·have e:g=m:=e;rw [e] at hf;rcases hf with hf|⟨x,hx,hf⟩
  ·obtain ⟨cur,Uu⟩:=h.kept.own.type _ hf;exact Zc Uu hm0 rfl
  ·obtain ⟨cur,Uu⟩:=Own.type (h.kept.vals x hx) _ hf;exact Zc Uu hm0 rfl
theorem Yt.Q5x (h:Yt w s d l P o st m cs ka kc K) (hs:Je st.keys) {c':Ja} (hc:Qo cs k=some c) (hb:c'.b=c.b) (hk:Kp (λg=>g=c.b\/c.row.ownBlock=some g) w w') (hok:Y7 203 w' c') (hrow:c'.row.ownBlock=c.row.ownBlock\/ ∀g,c'.row.ownBlock=some g->w.heap.size<=g) {keys':Dh} (hp:(J3 (Qt cs k c')).Perm keys'):
  Yt w' s d l P o {st with keys:=keys'} m (Qt cs k c') ka kc K:=by
 have h1:=h.Gt hs hc hb hk hok hrow;exact ⟨h1.cell,h1.map,h1.Vl,h1.kept,hp,h1.Gn⟩
end
def Vw (w0:World) (R:List Qd) (wr:World) (v:Value) (k:Nat):Prop:=
 ∃Q:List Qd,Q.map Qd.v=(R.take k).map Qd.v/\Qq 44 6 Qg w0 wr v k Q/\ ∀y∈Q,y.ok wr/\ ∀g,y.sl.ownBlock=some g->w0.heap.size<=g
theorem Vw.nil (w:World) (R:List Qd):Vw w R w (.slice none 0 0) 0:=⟨[],rfl,Qq.nil _ _ _ _,λ_ hy=>absurd hy List.not_mem_nil⟩
theorem Vw.kp {w0 wr:World} {R:List Qd} {v:Value} {k:Nat} (h:Vw w0 R wr v k):Kp No w0 wr:=by
 obtain ⟨Q,_,h,_⟩:=h;exact h.2.2.2
theorem Vw.keep {w0 wr W:World} {R:List Qd} {v:Value} {k:Nat} (h:Vw w0 R wr v k) (hk:Kp No wr W):Vw w0 R W v k:=by
 obtain ⟨Q,h1,h2,h3⟩:=h;exact ⟨Q,h1,h2.keep hk,λy hy=>⟨(h3 y hy).1.keep hk λ_ _ x=>x,(h3 y hy).2⟩⟩
theorem Vw.step {w0 W:World} {R:List Qd} {v:Value} {k:Nat} (h:Vw w0 R W v k) (hk:k<R.length) (hn:R.length<=1000000) {y:Qd} (hy:y.v=R[k].v) (ho:y.ok W) (hf: ∀g,y.sl.ownBlock=some g->w0.heap.size<=g)
  {g:Nat} {t:TypeId} (hg:W.heap[g]?=some (.cells (Qg y).toArray t (0,0))):
  ∃a' c' W',(Builtin.append_ #[68,68] 68 #[v, .slice (some ⟨g,0,none⟩) 1 1]).run Tryz.prog W= .ok (.slice a' (k+1) c') W'/\Vw w0 R W' (.slice a' (k+1) c') (k+1):=by
 obtain ⟨Q,h1,h2,h3⟩:=h;obtain ⟨a',c',W',hrun,hrel,hkp⟩:=Qq.app (P:=Tryz.prog) (T:=68) Tryz.underlying68 Vo Yg h2 [y] (Ew (f:=Qg) J8 (x:=y) hg rfl) rfl (by unfold maxLen;omega) (by omega)
 have hS: ∀gg,v.ownBlock=some gg-> ∀cur,W.heap[gg]?≠some (.cells cur 5 (0,0)):=λgg hgg cur hcur=>by
  obtain ⟨cur',hc'⟩:=h2.2.1.type gg hgg;exact Q7 hcur hc' (by decide) rfl
 refine ⟨a',c',W',hrun,Q++[y],?_,hrel,λz hz=>?_⟩
 ·rw [List.map_append,h1,List.take_succ_eq_append_getElem hk,List.map_append];simp [hy]
 ·rcases List.mem_append.1 hz with hz|hz
  ·exact ⟨(h3 z hz).1.apart hkp hS,(h3 z hz).2⟩
  ·rw [List.mem_singleton] at hz;subst hz;exact ⟨ho.apart hkp hS,hf⟩
theorem Qf8 (w:World) (k0:Ja) (hc:Y7 203 w k0) (hn:k0.R.length<=1000000) (hl: ∀x∈k0.R,x.v.val.length<=140737488355328):
  Calls Tryz.prog 63 #[.pointer (some ⟨k0.b,0,none⟩)] w λe w'=> ∃a c,e= .returned (.slice a k0.R.length c)/\Vw w k0.R w' (.slice a k0.R.length c) k0.R.length:=by
 obtain ⟨cb,ra,rc,R⟩:=k0;simp only at hn hl⊢
 obtain ⟨n,hnR⟩: ∃n,n=R.length:=⟨_,rfl⟩;have hrow:(⟨cb,ra,rc,R⟩:Ja).row= .slice ra n rc:=by unfold Ja.row;rw [hnR]
 have hR:Rd w w.heap.size ra (R.flatMap Qg):=by have:=Own.rd' (a:=ra) (cap:=rc) (m:=R.length) hc.own;exact this
 have f0:w.cell? ⟨cb,0,none⟩=some (.slice ra n rc):=by
  have:=hc.cells.1 w zK;rw [hrow] at this;exact this
 have hcb:=Q3 hc.cell;simp only at hcb
 rw [<-hnR];have hnn:n<=1000000:=by omega
 have HC:=zz hc;have HN:=zz hnR;have HR:=zz hR;have Ds:=zz hn;have HL:=zz hl;clear hc hnR hR hrow hn hl;go_enter Tryz.func63,Tryz.ntmps63
 go_wp2_with fail
 go_loopw [3,13] (λs3 s13 wr=> ∃(k:Nat) (a:Option Addr) (cp:Nat),k<=n/\s13= .int .i64 k/\s3= .slice a k cp/\Hid (Vw w R wr (.slice a k cp) k)) (λ_ s13 _=>n-(intOf s13).toNat)
 case atStart=>exact ⟨0,none,0,Nat.zero_le _,rfl,rfl,zz (Vw.nil w R)⟩
 case round=>
  obtain ⟨k,a,cp,hk,rfl,rfl,HA⟩:=hrel;have hkw:=HA.out.kp;rcases Nat.lt_or_ge k n with hlt|hge
  ·have hkR:k<R.length:=by have:=HN.out;omega
   obtain ⟨g,off,rfl,hgl,hgr⟩:=Yh HR.out hkR;have hxo:R[k].ok wr:=(HC.out.vals R[k] (List.getElem_mem hkR)).keep hkw λ_ _ x=>x;have hxl:=HL.out R[k] (List.getElem_mem hkR);obtain ⟨x,hx⟩: ∃x,x=R[k]:=⟨_,rfl⟩;rw [<-hx] at hgr hxo hxl;have R1:=zz (hgr wr hkw);have hg3:=hkw.lt hgl;obtain ⟨w5,hw5⟩: ∃W,W=wr.alloc (.cells (Qg x).toArray 44):=⟨_,rfl⟩;have k5:Kp No wr w5:=by rw [hw5];exact zK.alloc _
   have b5:w5.heap[wr.heap.size]?=some (.cells (Qg x).toArray 44 (0,0)):=by rw [hw5];exact heap_alloc_new wr _
   have R5:=zz (show w5.rangeAt wr.heap.size 0 (Qg x) from by have:=Qb b5 0 6;exact this);have hl5:=Q3 b5;have how:=Cw x w5 (Qd.Fg hxo.rd k5) hxl;have HOW:=zz how;have Ga:=zz k5;have Q0d:=zz hw5;have HX:=zz hx;have Qs9:=zz hkR;clear hgr hxo hxl k5 b5 how hw5 hx hkw hgl
   go_upto_region 7 with (first
    |(refine Qe rfl 44 _ rfl g (off+k*6) rfl _ _ R1 Tryz.underlying44 rfl (by kernel_rfl) ?_)
    |(refine Qy rfl 44 _ _ rfl wr.heap.size (by rfl) _ _ _ rfl rfl (by kernel_rfl) (by rfl) (by rfl) ?_))
   rw [<-Q0d.out];go_wp2_with (refine Qe rfl 44 _ rfl wr.heap.size 0 rfl _ _ R5 Tryz.underlying44 rfl (by kernel_rfl) ?_)
   refine HOW.out.mono ?_;rintro e w6 ⟨y,hyv,rfl,hyo,Qe1,k6⟩;have h6:Kp No wr w6:=Ga.out.trans_same k6;have h7:Kp No w6 (w6.alloc (.cells (Qg y).toArray 44)):=zK.alloc _
   obtain ⟨a',c',w8,hrun,hnew⟩:=(HA.out.keep (h6.trans_same h7)).step Qs9.out Ds.out (y:=y) (by rw [hyv,HX.out]) (hyo.keep h7 λ_ _ x=>x) (λgg hgg=>by
    have h1:=Qe1 gg hgg;have h2:=Ga.out.size;have h3:=HA.out.kp.size;omega) (heap_alloc_new w6 _)
   have Q6z:=zz hrun;have Yz:=zz hnew;simp only [Y0,Qg];clear hyv hyo Qe1 k6 h6 h7 hrun hnew HOW;go_wp2_with (at_builtin;refine wpList_append_run rfl rfl rfl rfl Q6z.out ?_)
   go_roundw
   case rel=>exact ⟨k+1,a',c',hlt,by push_cast;rfl,rfl,Yz⟩
   case measure=>simp [intOf];omega
  ·obtain rfl:k=n:=by omega
   clear hge hkw;go_wp2_with fail
   go_ret
   exact ⟨a,cp,rfl,HA.out⟩
open Go.Maps
structure Md (w w1:World) (s d l:Nat) (P:ByteArray) (o:Nat) (st:J7) (m:Nat) (cs:Z7) (ka:Option Addr) (kc:Nat) (K:List Qa) (t1 t2:Int) (B tb:Nat) (V:List ByteArray) (cs':Z7) (wr:World):Prop where
 st:Yt wr s d l P o {st with keys:=Yy st.keys V t1 t2,mm:=t1,mc:=t2} m cs' ka kc K
 foot: ∀g,X6 s m cs' ka kc K g->X6 s m cs ka kc K g\/w1.heap.size<=g
 kp:Kp (X6 s m cs ka kc K) w wr
 size:w1.heap.size<=wr.heap.size
 len: ∀p∈cs',p.2.R.length<=B
 box:wr.heap[tb]?=some (.cells #[.int .i64 t1, .int .i64 t2] 25 (0,0))
def Qug (w:World) (s d l:Nat) (P:ByteArray) (o:Nat) (st:J7) (m:Nat) (cs:Z7) (ka:Option Addr) (kc:Nat) (K:List Qa) (t1 t2:Int) (B:Nat) (e:Ending) (w':World):Prop:=
 e= .returned (.int .i64 (Fb st t1 t2:Nat))/\ ∃cs',Yt w' s d l P o (Fc st t1 t2) m cs' ka kc K/\(∀g,X6 s m cs' ka kc K g->X6 s m cs ka kc K g\/w.heap.size<=g)/\Kp (X6 s m cs ka kc K) w w'/\ ∀p∈cs',p.2.R.length<=B
section
variable {w w1 wr w2:World} {s d l o m B tb:Nat} {P:ByteArray} {st:J7} {cs cs':Z7} {ka:Option Addr} {kc:Nat} {K:List Qa} {t1 t2:Int} {V:List ByteArray}
theorem Yt.Q38 (h:Yt w s d l P o st m cs ka kc K) (t1 t2:Int):Yt ((w.setCell ⟨s,8,none⟩ (.int .i64 t1)).setCell ⟨s,9,none⟩ (.int .i64 t2)) s d l P o {st with mm:=t1,mc:=t2} m cs ka kc K:=by
 refine h.turn (((Kp.refl (Mer.One s) w).setCell (p:=⟨s,8,none⟩) (.inl (show Mer.One s s from rfl)) _).setCell (p:=⟨s,9,none⟩) (.inl (show Mer.One s s from rfl)) _) ?_ rfl rfl;rw [Qh (Qh h.cell 8 (.int .i64 t1)) 9 (.int .i64 t2)];rfl
theorem Md.key (h:Md w w1 s d l P o st m cs ka kc K t1 t2 B tb V cs' wr) (hs:Je st.keys) {q:ByteArray×Ja} (hq:q∈cs') (hV:q.1∉V):(q.1,q.2.vs)∈st.keys/\Qo cs' q.1=some q.2:=by
 have hg:Qo cs' q.1=some q.2:=Xj h.st.Vl.keys hq;have h1:=h.st.chain q.1;rw [hg] at h1;exact ⟨Q6h hs h1 hV,hg⟩
theorem Q49 {c c':Ja} {g n:Nat} (hb:c'.b=c.b) (hrow:c'.row.ownBlock=c.row.ownBlock\/ ∀g,c'.row.ownBlock=some g->n<=g) (hv: ∀y∈c'.R,y∈c.R) (h:Qdo c' g):Qdo c g\/n<=g:=by
 rcases h with h|h|⟨y,hy,h⟩
 ·exact .inl (.inl (h.trans hb))
 ·rcases hrow with hr|hr
  ·exact .inl (.inr (.inl (hr▸h)))
  ·exact .inr (hr g h)
 ·exact .inl (.inr (.inr ⟨y,hv y hy,h⟩))
theorem Ly {c':Ja} {q:ByteArray×Ja} {n:Nat} (hq:q∈cs) (hF: ∀g,Qdo c' g->Qdo q.2 g\/n<=g): ∀g,Ej (Qt cs q.1 c') g->Ej cs g\/n<=g:=by
 rintro g ⟨p,hp,hf⟩
 have key:p∈cs\/p.2=c':=by
  unfold Qt at hp;split at hp
  ·obtain ⟨z,hz,rfl⟩:=List.mem_map.1 hp;by_cases Qon:z.1=q.1
   ·rw [if_pos Qon];exact .inr rfl
   ·rw [if_neg Qon];exact .inl hz
  ·rcases List.mem_append.1 hp with hp|hp
   ·exact .inl hp
   ·rw [List.mem_singleton] at hp;rw [hp];exact .inr rfl
 rcases key with hp|hp
 ·exact .inl ⟨p,hp,hf⟩
 ·rw [hp] at hf;exact (hF g hf).imp (λh=>⟨q,hq,h⟩) id
theorem Md.no (h:Md w w1 s d l P o st m cs ka kc K t1 t2 B tb V cs' wr) (hk:Kp No wr w2):Md w w1 s d l P o st m cs ka kc K t1 t2 B tb V cs' w2:=
 ⟨h.st.Q5 hk,h.foot,h.kp.trans_no hk,Nat.le_trans h.size hk.size,h.len,hk.get h.box λx=>x⟩
theorem Md.set (h:Md w w1 s d l P o st m cs ka kc K t1 t2 B tb V cs' wr) (hs:Je st.keys) {q:ByteArray×Ja} (hq:q∈cs') (hV:q.1∉V) {c':Ja} (hT:O7 203 q.2 c' t1 t2 wr w2) (hne:c'.vs≠[]) (hw1:w.heap.size<=w1.heap.size):
  Md w w1 s d l P o st m cs ka kc K t1 t2 B tb (q.1::V) (Qt cs' q.1 c') w2:=by
 obtain ⟨hm,hg⟩:=h.key hs hq hV;have hco:=h.st.Vl.each q hq;have hperm:=Qd5 hs h.st.perm h.st.Vl.keys hg hV hT.vs hne;have hst:=h.st.Q5x (Kj hs V t1 t2) hg hT.b (hT.kp.mono λi _ e=> .inl e) hT.ok hT.row hperm;refine ⟨hst,λg hgf=>?_,h.kp.trans hT.kp λi hi e=>?_,Nat.le_trans h.size hT.kp.size,?_,hT.kp.get h.box λe=>Q7 h.box hco.cell (by decide) e⟩
 ·rcases hgf with hgf|hgf|hgf|hgf
  ·exact h.foot g (.inl hgf)
  ·exact h.foot g (.inr (.inl hgf))
  ·rcases Ly hq (λg hg=>Q49 (n:=wr.heap.size) hT.b hT.row hT.vals hg) g hgf with h1|h1
   ·exact h.foot g (.inr (.inr (.inl h1)))
   ·exact .inr (Nat.le_trans h.size h1)
  ·exact h.foot g (.inr (.inr (.inr hgf)))
 ·have e:i=q.2.b:=e;rcases h.foot i (.inr (.inr (.inl ⟨q,hq, .inl e⟩))) with h1|h1
  ·exact h1
  ·omega
 ·refine Fv (Q:=λc=>c.R.length<=B) h.len ?_;have h1:=congrArg List.length hT.vs;rw [Ki] at h1;unfold Ja.vs at h1;rw [List.length_map,List.length_map] at h1;have:=h.len q hq;omega
theorem Md.del (h:Md w w1 s d l P o st m cs ka kc K t1 t2 B tb V cs' wr) (hs:Je st.keys) {q:ByteArray×Ja} (hq:q∈cs') (hV:q.1∉V) {c':Ja} (hT:O7 203 q.2 c' t1 t2 wr w2) (hne:c'.vs=[]) (hw1:w.heap.size<=w1.heap.size)
  {w3 w4:World} (hk3:Kp No w2 w3) (hk4:Kp (Mer.One m) w3 w4) (hm4:Vi Value.string w4 m (X3 (Y3 cs') q.1)):Md w w1 s d l P o st m cs ka kc K t1 t2 B tb (q.1::V) (X3 cs' q.1) w4:=by
 obtain ⟨hm,hg⟩:=h.key hs hq hV;have hco:=h.st.Vl.each q hq;have hperm:=Qd3 hs h.st.perm h.st.Vl.keys hg hV (by rw [<-hT.vs];exact hne);have J20:=h.st.Q5x (keys':=J3 (Qt cs' q.1 c')) (Kj hs V t1 t2) hg hT.b (hT.kp.mono λi _ e=> .inl e) hT.ok hT.row (List.Perm.refl _);have hmem:q.1∈cs'.map (·.1):=List.mem_map.2 ⟨q,hq,rfl⟩;have e1:X3 (Qt cs' q.1 c') q.1=X3 cs' q.1:=Q14 cs' q.1 c' hmem
 have e2:X3 (Y3 (Qt cs' q.1 c')) q.1=X3 (Y3 cs') q.1:=by
  rw [D5];exact Q14 _ _ _ (by rw [Ib];exact hmem)
 have hst:=(J20.Q5 hk3).Qfl (k:=q.1) (keys':=Yy st.keys (q.1::V) t1 t2) hk4 (by rw [e2];exact hm4) (by rw [e1];exact hperm);rw [e1] at hst;have hbm:=Zc h.box (show wr.heap[m]?=some (.map (h.st.map.choose) (h.st.map.choose_spec.choose)) from h.st.map.choose_spec.choose_spec.1);refine ⟨hst,λg hgf=>?_,((h.kp.trans hT.kp λi hi e=>?_).trans_no hk3).trans hk4 λi hi e=> .inr (.inl e),Nat.le_trans (Nat.le_trans h.size hT.kp.size) (Nat.le_trans hk3.size hk4.size),λp hp=>h.len p ((B6 cs' q.1).subset hp),hk4.get (hk3.get (hT.kp.get h.box λe=>Q7 h.box hco.cell (by decide) e) λx=>x) λe=>hbm e⟩
 ·rcases hgf with hgf|hgf|⟨p,hp,hgf⟩|hgf
  ·exact h.foot g (.inl hgf)
  ·exact h.foot g (.inr (.inl hgf))
  ·exact h.foot g (.inr (.inr (.inl ⟨p,(B6 cs' q.1).subset hp,hgf⟩)))
  ·exact h.foot g (.inr (.inr (.inr hgf)))
 ·have e:i=q.2.b:=e;rcases h.foot i (.inr (.inr (.inl ⟨q,hq, .inl e⟩))) with h1|h1
  ·exact h1
  ·omega
theorem Q8p (h:Yt w s d l P o st m cs ka kc K) (hinv:Inv o st) (hB:B<=1000000) (hc: ∀p∈cs,p.2.R.length<=B) (hm:Zy st<=1000000000) (ht:t1<=9223372036854775807):
  Calls Tryz.prog 73 #[.pointer (some ⟨s,0,none⟩),Xo t1 t2] w (Qug w s d l P o st m cs ka kc K t1 t2 B):=by
 have hs:=hinv.sorted;obtain ⟨w1,hw1⟩: ∃W,W=w.alloc (.cells #[.int .i64 t1, .int .i64 t2] 25):=⟨_,rfl⟩;have k1:Kp No w w1:=by rw [hw1];exact zK.alloc _
 have b1:w1.heap[w.heap.size]?=some (.cells #[.int .i64 t1, .int .i64 t2] 25 (0,0)):=by rw [hw1];exact heap_alloc_new w _
 obtain ⟨tb,htb⟩: ∃b,b=w.heap.size:=⟨_,rfl⟩;rw [<-htb] at b1;have h1:=h.Q5 k1;have f8:=Qc h1.cell 8;have f9:=Qc h1.cell 9;have c8:w1.cell? ⟨s,8,none⟩=some (.int .i64 st.mm):=h1.at_ zK 8;have c9:w1.cell? ⟨s,9,none⟩=some (.int .i64 st.mc):=h1.at_ zK 9;have d0:w1.cell? ⟨tb,0,none⟩=some (.int .i64 t1):=Q0 b1 0;have d1:w1.cell? ⟨tb,1,none⟩=some (.int .i64 t2):=Q0 b1 1;have sl1:=Q3 h1.cell;have J6a:=Q3 b1;obtain ⟨w2,hw2⟩: ∃W,W=(w1.setCell ⟨s,8,none⟩ (.int .i64 t1)).setCell ⟨s,9,none⟩ (.int .i64 t2):=⟨_,rfl⟩;have k2:Kp (Mer.One s) w1 w2:=by rw [hw2];exact ((Kp.refl (Mer.One s) w1).setCell (p:=⟨s,8,none⟩) (.inl (show Mer.One s s from rfl)) _).setCell (p:=⟨s,9,none⟩) (.inl (show Mer.One s s from rfl)) _
 have h2:Yt w2 s d l P o {st with mm:=t1,mc:=t2} m cs ka kc K:=by rw [hw2];exact h1.Q38 t1 t2
 have hst:s≠tb:=by have:=Q3 h.cell;omega
 have b2:=k2.get b1 λe=>hst (show tb=s from e).symm;have sl2:=Q3 h2.cell;have c7:w2.cell? ⟨s,7,none⟩=some (.map (some m)):=h2.at_ zK 7;obtain ⟨ob,hrun,hit⟩:=Hp (P:=Tryz.prog) Tryz.underlying128 h2.map;obtain ⟨w3,hw3⟩: ∃W,W=w2.alloc ob:=⟨_,rfl⟩;have k3:Kp No w2 w3:=by rw [hw3];exact zK.alloc _
 have hs3:w3.heap.size=w2.heap.size+1:=by rw [hw3];simp
 have hJ0:Md w w3 s d l P o st m cs ka kc K t1 t2 B tb [] cs w3:=by
  refine ⟨by rw [Qd4];exact h2.Q5 k3,λg hg=> .inl hg,((Kp.of_no k1).trans k2 λi _ e=> .inl e).trans_no k3,Nat.le_refl _,hc,k3.get b2 λx=>x⟩
 rw [<-hw3] at hrun hit;obtain ⟨rb,hrb⟩: ∃r,r=w2.heap.size:=⟨_,rfl⟩;rw [<-hrb] at hrun hit;have HI:=zz hit;have HJ:=zz hJ0;have HS:=zz (And.intro hs (And.intro hinv hm));have HZ:=zz (show w.heap.size<=w3.heap.size/\rb<w3.heap.size/\tb<w3.heap.size/\w.heap.size<=rb from ⟨by have:=k1.size;have:=k2.size;omega,by omega,by have:=k2.size;omega,by have:=k1.size;have:=k2.size;omega⟩);have HW1:=zz hw1;have HW2:=zz hw2;have HW3:=zz hw3;have Q7e:=zz (And.intro htb hrb);have hml:m<w2.heap.size:=h2.map.lt;simp only [Xo];clear h hinv hs hc hm hw1 k1 b1 h1 hw2 k2 h2 hst b2 hit hw3 k3 hs3 hJ0 htb hrb;go_enter Tryz.func73,Tryz.ntmps73
 go_upto_region 1 with fail
 rw [<-Q7e.out.1,<-HW1.out];go_upto_region 2 with fail
 rw [<-HW2.out];go_wp2_with fail
 have HRW:=zz (show ∀V,Vt st.keys V t1 t2<=1000000000 from λV=>Nat.le_trans (Qd1 st V t1 t2) HS.out.2.2);go_loopg [5] (Ot st.keys []) (λg n wr=> ∃V cs',g=Ot st.keys V/\Hid (Xv Value.string wr rb m (Y3 cs') V)/\Hid (Md w w3 s d l P o st m cs ka kc K t1 t2 B tb V cs' wr)/\n= .int .i64 (Vt st.keys V t1 t2:Int))
 case atStart=>exact ⟨[],cs,rfl,HI,HJ,by rw [Q8y];rfl⟩
 case round=>
  clear HI HJ;obtain ⟨V,cs',rfl,hI,HJ,rfl⟩:=hrel;rcases Ae (P:=Tryz.prog) 0 hI.out with ⟨hall,hnext⟩|⟨p,hp,Qlc,n,o',hnext,hI',hent⟩
  ·have Qg4: ∀q∈st.keys,q.1∈V:=λq hq=>by
    refine Decidable.byContradiction λhn=>?_;have h1:=HJ.out.st.chain q.1;have h2:Qo (Yy st.keys V t1 t2) q.1=some q.2:=by rw [Ve HS.out.1,if_neg hn];exact (Q2b HS.out.1).2 hq
    have h3:Qo (Yy st.keys V t1 t2) q.1=(Qo cs' q.1).map Ja.vs:=h1;rw [h2] at h3;cases hg:Qo cs' q.1 with
    |none=>rw [hg] at h3;cases h3
    |some c=>exact hn (hall (q.1,Xg c.b) (List.mem_map.2 ⟨_,Qw hg,rfl⟩))
   have HE:=zz (show Qug w s d l P o st m cs ka kc K t1 t2 B (.returned (.int .i64 (Vt st.keys V t1 t2:Int))) wr from by
    refine ⟨by rw [Q8x Qg4],cs',?_,λg hg=>(HJ.out.foot g hg).imp id λh=>by have:=HZ.out.1;omega,HJ.out.kp,HJ.out.len⟩;have:=HJ.out.st;rw [Qd2 Qg4] at this;exact this)
   clear hall Qg4 hI HJ;go_wp2_with fail
   go_ret
   exact HE.out
  ·obtain ⟨q,hq,rfl⟩:=List.mem_map.1 hp;have hkey:=HJ.out.key HS.out.1 hq Qlc;have hst:=Q6g HS.out.1 hkey.1 (V:=V) Qlc t1 t2;have hre:=(Eo (V:=V) (Xh HS.out.1) hkey.1 Qlc).2;have hle:=HRW.out V;have Ql7:=HRW.out (q.1::V);simp only at hst hre
   have hrm:rb≠m:=hI.out.ne;have hrl:rb<wr.heap.size:=hI.out.lt;have hnx:(Instr.next (.pointer (some ⟨rb,0,none⟩)) false 0).run Tryz.prog wr= .ok (.tuple #[.bool true, .string q.1, .pointer (some ⟨q.2.b,0,none⟩)]) (ChangeMaps.setBlock (wr.drewN n) rb o'):=hnext
   have hen:(Instr.entry (.pointer (some ⟨rb,0,none⟩))).run Tryz.prog (ChangeMaps.setBlock (wr.drewN n) rb o')= .ok (.tuple #[.string q.1, .pointer (some ⟨q.2.b,0,none⟩)]) (ChangeMaps.setBlock (wr.drewN n) rb o'):=
    hent _ (Up (w:=wr.drewN n) hrl o') (by show (wr.heap.setIfInBounds _ o')[m]?=_;rw [Array.getElem?_setIfInBounds_ne hrm])
   obtain ⟨W2,hW2⟩: ∃W,W=ChangeMaps.setBlock (wr.drewN n) rb o':=⟨_,rfl⟩;rw [<-hW2] at hnx hen hI';have hkW:Kp (Mer.One rb) wr W2:=by rw [hW2];exact ((Kp.refl (Mer.One rb) wr).drewN n).setBlock (.inl rfl) o'
   have J5l: ∀g,X6 s m cs' ka kc K g->g≠rb:=λg hg e=>by
    subst e;obtain ⟨es,clock,since,seen,c0,Q1b,_⟩:=hI.out;rcases hg with hg|hg|⟨z,hz,hg|hg|⟨v,hv,hg⟩⟩|hg|⟨v,hv,hg⟩
    ·have:=HJ.out.st.cell;rw [<-hg,Q1b] at this;cases this
    ·exact hrm hg
    ·have:=(HJ.out.st.Vl.each z hz).cell;rw [<-hg,Q1b] at this;cases this
    ·obtain ⟨cur,hc⟩:=(HJ.out.st.Vl.each z hz).own.type _ hg;rw [Q1b] at hc;cases hc
    ·obtain ⟨cur,hc⟩:=Own.type ((HJ.out.st.Vl.each z hz).vals v hv) _ hg;rw [Q1b] at hc;cases hc
    ·obtain ⟨cur,hc⟩:=HJ.out.st.kept.own.type _ hg;rw [Q1b] at hc;cases hc
    ·obtain ⟨cur,hc⟩:=Own.type (HJ.out.st.kept.vals v hv) _ hg;rw [Q1b] at hc;cases hc
   have hrt:tb≠rb:=λe=>by
    obtain ⟨es,clock,since,seen,c0,Q1b,_⟩:=hI.out;have:=HJ.out.box;rw [e,Q1b] at this;cases this
   have hJ2:Md w w3 s d l P o st m cs ka kc K t1 t2 B tb V cs' W2:=⟨HJ.out.st.keep hkW λg hg e=>J5l g hg e,HJ.out.foot,HJ.out.kp.trans hkW λi hi e=>by
    have e:i=rb:=e;have:=HZ.out.2.2.2;omega,Nat.le_trans HJ.out.size hkW.size,HJ.out.len,hkW.get HJ.out.box λe=>hrt e⟩
   have hvs: ∀v∈q.2.vs,Zx v=true:=λv hv=>((HS.out.2.1.keys _ hkey.1).2.2.2.2 v hv).1;have htr:=Qbg W2 q.2 t1 t2 ht (hJ2.st.Vl.each q hq) (Nat.le_trans (HJ.out.len q hq) hB) hvs;have e0:W2.cell? ⟨tb,0,none⟩=some (.int .i64 t1):=Q0 hJ2.box 0;have e1:W2.cell? ⟨tb,1,none⟩=some (.int .i64 t2):=Q0 hJ2.box 1;have Qrv:=Q3 hJ2.box;obtain ⟨k,hk⟩: ∃k,k=Jb q.2.vs t1 t2:=⟨_,rfl⟩;obtain ⟨N,hN⟩: ∃N,N=Vt st.keys V t1 t2:=⟨_,rfl⟩;obtain ⟨N2,J0s⟩: ∃N,N=Vt st.keys (q.1::V) t1 t2:=⟨_,rfl⟩;rw [<-hk] at hst htr;rw [<-hN] at hst hle⊢;rw [<-J0s] at hst Ql7;have Q7g:=zz htr;have HI2:=zz hI';have HJ2:=zz hJ2;have HQ:=zz (And.intro hq (And.intro Qlc hkey));have HST:=zz (And.intro hst J0s);have Qdr:=zz hre;have J7e:=zz hvs;have hadd:N+k<=1000000000:=by omega
   clear hW2 hnext hent hI' hst hre hle Ql7 hp Qlc hI hJ2 htr hk hN J0s hkW J5l hrt hvs hkey hq HJ;go_upto_region 6 with fail
   go_wp2_with fail
   refine Q7g.out.mono ?_;rintro e W3 ⟨rfl,c',hT⟩
   have hall:=Qf8 W3 c' hT.ok (by
    have h1:=congrArg List.length hT.vs;rw [Ki] at h1;unfold Ja.vs at h1;rw [List.length_map,List.length_map] at h1;have:=HJ2.out.len q HQ.out.1;omega) (λx hx=>by
    have:=J7e.out x.v (List.mem_map.2 ⟨x,hT.vals x hx,rfl⟩);have:=(Zo.1 this).2.2.2.1;omega)
   rw [hT.b] at hall;have Ht:=zz hall;have HT:=zz hT;obtain ⟨es,ck,Qoa,_⟩:=id HI2.out.map;have hco:=HJ2.out.st.Vl.each q HQ.out.1;have Quy:Xv Value.string W3 rb m (Y3 cs') (q.1::V):=HI2.out.of_heap (hT.kp.block rb HI2.out.lt λe=>HI2.out.Qhj hco.cell e) (hT.kp.block m HI2.out.map.lt λe=>Zc hco.cell Qoa (show m=q.2.b from e).symm);obtain ⟨kR,hkR⟩: ∃k,k=c'.R.length:=⟨_,rfl⟩;rw [<-hkR] at Ht;have Qs9:=zz hkR;have HI3:=zz Quy;have hwr:wrap64 ((N:Int)+(k:Int))=((N+k:Nat):Int):=by rw [IntWalk.wrap64_in _ (by omega)];omega
   have Ff:=zz hwr;clear hall hT Qoa hco Quy hkR hwr Q7g e0 e1 Qrv;by_cases hz:kR=0
   ·have b1:((kR:Int)==0)=true:=by rw [beq_iff_eq];omega
    have b2:(kR==0)=true:=by rw [beq_iff_eq];exact hz
    have hne:c'.vs=[]:=by
     unfold Ja.vs;rw [List.map_eq_nil_iff,<-List.length_eq_zero_iff,<-Qs9.out];exact hz
    have Qef:=zz hne;clear hne hz;go_wp2_with fail
    refine Ht.out.mono ?_;rintro e W4 ⟨a4,c4,rfl,Quu⟩;have hk4:=Quu.kp;have hco:=HJ2.out.st.Vl.each q HQ.out.1;have hcell:=hk4.get (HT.out.kp.get HJ2.out.st.cell λe=>Q7 HJ2.out.st.cell hco.cell (by decide) (show s=q.2.b from e)) λx=>x;have J7s:W4.cell? ⟨s,7,none⟩=some (.map (some m)):=Q0 hcell 7;have J9t:=Q3 hcell;have Qa3:Xv Value.string W4 rb m (Y3 cs') (q.1::V):=HI3.out.of_heap (hk4.block _ HI3.out.lt λx=>x) (hk4.block _ HI3.out.map.lt λx=>x);obtain ⟨o5,hdel,hG⟩:=run_delete_i (P:=Tryz.prog) (ty:=0) (w:=W4) Tryz.underlying128 kindStr An Am Qa3 q.1;have Qw6:=Qa3.map.lt;have HG:=zz hG;have Ox:=zz (And.intro hk4 Qw6);clear Quu hk4 hco hcell Qa3 hG Ht HI3 hnx hen c7;go_wp2_with fail
    obtain ⟨W5,Dk⟩: ∃W,W=ChangeMaps.setBlock W4 m o5:=⟨_,rfl⟩;have Qqz:W5.heap[m]?=some o5:=by rw [Dk];exact Up Ox.out.2 o5
    have hk5:Kp (Mer.One m) W4 W5:=by rw [Dk];exact (Kp.refl (Mer.One m) W4).setBlock (.inl rfl) o5
    have Qkz:=HG.out W5 Qqz (by rw [Dk];show (W4.heap.setIfInBounds m o5)[rb]?=_;rw [Array.getElem?_setIfInBounds_ne (λe=>hrm e.symm)]);have Q3r:=zz Qkz;have J6v:=zz (HJ2.out.del HS.out.1 HQ.out.1 HQ.out.2.1 HT.out Qef.out HZ.out.1 Ox.out.1 hk5 Qkz.map);rw [<-Dk];clear Dk Qqz hk5 Qkz hdel HG Ox J7s J9t Qw6;go_roundg (Ot st.keys (q.1::V))
    case measure=>have:=Qdr.out;omega
    case rel=>exact ⟨q.1::V,X3 cs' q.1,rfl,zz (by have e:Y3 (X3 cs' q.1)=X3 (Y3 cs') q.1:=I2 (λc:Ja=>Xg c.b) cs' q.1;rw [e];exact Q3r.out),J6v,by rw [<-HST.out.2,HST.out.1];go_num⟩
   ·have b1:((kR:Int)==0)=false:=by rw [beq_eq_false_iff_ne];omega
    have b2:(kR==0)=false:=by rw [beq_eq_false_iff_ne];exact hz
    have hne:c'.vs≠[]:=λe=>by
     unfold Ja.vs at e;rw [List.map_eq_nil_iff,<-List.length_eq_zero_iff,<-Qs9.out] at e;exact hz e
    have hJ3:=HJ2.out.set HS.out.1 HQ.out.1 HQ.out.2.1 HT.out hne HZ.out.1;have Qz1:=zz hJ3
    have hce:Y3 (Qt cs' q.1 c')=Y3 cs':=by
     have hnd:((Y3 cs').map (·.1)).Nodup:=by rw [Ib];exact HJ2.out.st.Vl.keys
     obtain ⟨l1,l2,he,_⟩:=V3 (show Qo (Y3 cs') q.1=some (Xg q.2.b) from by rw [V8,HQ.out.2.2.2];rfl);rw [D5];rw [he] at hnd⊢;rw [HT.out.b,Xb hnd]
    have Q0b:=zz hce;clear hne hz hJ3 hce;go_wp2_with fail
    refine Ht.out.mono ?_;rintro e W4 ⟨a4,c4,rfl,Quu⟩;have hk4:=Quu.kp;have HI4:=zz (show Xv Value.string W4 rb m (Y3 cs') (q.1::V) from HI3.out.of_heap (hk4.block _ HI3.out.lt λx=>x) (hk4.block _ HI3.out.map.lt λx=>x));have J6u:=zz (Qz1.out.no hk4);clear Quu hk4 Ht HI3 hnx hen c7;go_wp2_with fail
    go_roundg (Ot st.keys (q.1::V))
    case measure=>have:=Qdr.out;omega
    case rel=>exact ⟨q.1::V,Qt cs' q.1 c',rfl,zz (by rw [Q0b.out];exact HI4.out),J6u,by rw [<-HST.out.2,HST.out.1];go_num⟩
end
end Go.Proofs.YtgnkmjeoaoongaaGreatDoor
namespace Go.Mer
open Go
inductive O5 where
 |leaf (ord:List Nat)
 |fork (pre:List Nat) (i j:Nat) (ti tj:O5)
def O5.len:O5->Nat
 | .leaf o=>o.length
 | .fork pre _ _ ti _=>pre.length+(ti.len+1)
section
variable {P:Program} {ops:Array Oper} {Q:Exit->Act->World->Prop} {S:World->Prop} {ks:List Nat}
def Ce (ops:Array Oper) (ks:List Nat) (k:Array Bool->Bool):List Nat->Array Bool->Bool
 |[],listed=>k listed
 |x::rest,listed=>(Region.ready .any ops listed).contains x&&Region.free .any ops listed x&&ks.getD x 2==0&&Ce ops ks k rest (listed.setIfInBounds x true)
def Ov (ops:Array Oper) (ks:List Nat):O5->Array Bool->Bool
 | .leaf o,listed=>Df ops ks o listed
 | .fork pre i j ti tj,listed=>ti.len==tj.len&&Ce ops ks (λl=>Region.ready .any ops l==[i,j]&&ks.getD i 2==2&&ks.getD j 2==2&&Ov ops ks ti (l.setIfInBounds i true)&&Ov ops ks tj (l.setIfInBounds j true)) pre listed
def Qos (ops:Array Oper) (ks:List Nat) (t:O5):Bool:=Region.noSelect ops&&t.len==ops.size&&Ov ops ks t (Array.replicate ops.size false)
def goes (K:Act->World->Prop):Exit->Act->World->Prop
 | .normal,a,w=>K a w
 |_,_,_=>False
def Xt (P:Program) (ops:Array Oper) (ks:List Nat) (S:World->Prop) (Q:Exit->Act->World->Prop):O5->Act->World->Prop
 | .leaf o,a,w=>J1 P ops ks S Q o a w
 | .fork pre i j ti tj,a,w=>J1 P ops ks S (goes λa w=>S w/\J1 P ops ks S (goes (Xt P ops ks S Q ti)) [i] a w/\J1 P ops ks S (goes (Xt P ops ks S Q tj)) [j] a w) pre a w
theorem Qio {Q1 Q2:Exit->Act->World->Prop} {o:Oper} {a:Act} {w:World} {K:Act->World->Prop} (h:o.wp P a w K (only Q1)):o.wp P a w K Q2:=by
 unfold Oper.wp at*;generalize (execOp a.eval o).run P w=r at*
 cases r with
 |ok n w'=>
  cases n<;>simp only [Oper.upon] at h⊢
  case value=>exact h
  case skip=>exact h
  case defer=>exact h
  case row=>exact h
  case enter f args=>
   refine Calls.mono h λe w'' he=>?_;cases e with
   |returned v=>exact he
   |panicked c=>exact he.elim
   |outgrown=>obtain ⟨_,_,h⟩:=he;exact h.elim
 |halt x w'=>cases x<;>simp only [Oper.upon] at h⊢;exact h.elim
theorem Qdg {Q1 Q2:Exit->Act->World->Prop} {i:Nat} {K:Act->World->Prop} {a:Act} {w:World} (h:wpOp P ops (only Q1) i K a w):wpOp P ops (only Q2) i K a w:=by
 unfold wpOp at*;split
 ·rename_i hn;simp only [hn] at h;exact h
 ·rename_i o ho
  simp only [ho] at h;split
  ·rename_i hw
   simp only [hw,if_true] at h;exact .inl (h.elim Qio λ⟨_,_,_,hh⟩=>hh.elim)
  ·rename_i hw;simp only [hw] at h;exact h
theorem Iw (hSd: ∀w n,S w->S (w.drewN n)) (hs:Region.noSelect ops=true) {k:Array Bool->Bool} {m:Nat} {K:Act->World->Prop} (hK: ∀listed a w,S w->k listed=true->(∀n,K a (w.drewN n))->Hz P ops ks S (only Q) m listed a w):
  ∀(pre:List Nat) (listed:Array Bool) (a:Act) (w:World),S w->Ce ops ks k pre listed=true->J1 P ops ks S (goes K) pre a w->Hz P ops ks S (only Q) (pre.length+m) listed a w
 |[],listed,a,w,hS,hB,h=>by
  rw [List.length_nil,Nat.zero_add];exact hK listed a w hS hB h
 |x::pre,listed,a,w,hS,hB,h=>by
  obtain ⟨o,ho,h⟩:=h;simp only [Ce,Bool.and_eq_true,beq_iff_eq] at hB;obtain ⟨⟨⟨hr,hf⟩,hk⟩,hB'⟩:=hB;have G5:x∈Region.ready .any ops listed:=by simpa using hr
  rw [hk] at h;obtain ⟨v,hy,hK'⟩:=h;rw [List.length_cons,show pre.length+1+m=(pre.length+m)+1 from by omega];exact Q0w hSd ho (by omega) (Region.noSelect_spec hs) (λ_ _ _ h=>h.elim) _ listed a w hS (Region.free_spec ho hf) G5 hy (Iw hSd hs hK pre _ _ _ hS hB' hK')
theorem Q1t {K:Act->World->Prop} {i:Nat} (hi:ks.getD i 2=2) {o:Oper} (ho:ops[i]?=some o) {a:Act} {w:World} (h:J1 P ops ks S (goes K) [i] a w) (n:Nat):
  wpOp P ops (only Q) i (λa' w'=>S w'/\ ∀m,K a' (w'.drewN m)) a (w.drewN n):=by
 obtain ⟨o',ho',h⟩:=h;rw [ho] at ho';injection ho' with ho';subst ho';rw [hi] at h;exact Qdg (h n)
theorem Gy (hSd: ∀w n,S w->S (w.drewN n)) (hs:Region.noSelect ops=true): ∀(t:O5) (listed:Array Bool) (a:Act) (w:World),S w->
  Ov ops ks t listed=true->Xt P ops ks S Q t a w->Hz P ops ks S (only Q) t.len listed a w
 | .leaf o,listed,a,w,hS,hB,h=>Ui hSd hs o listed a w hS hB h
 | .fork pre i j ti tj,listed,a,w,hS,hB,h=>by
  simp only [Ov,Bool.and_eq_true,beq_iff_eq] at hB;refine Iw hSd hs (K:=λa w=>S w/\J1 P ops ks S (goes (Xt P ops ks S Q ti)) [i] a w/\J1 P ops ks S (goes (Xt P ops ks S Q tj)) [j] a w) (λlisted a w hS hB2 h=>?_) pre listed a w hS hB.2 h;obtain ⟨_,h1,h2⟩:=h 0;simp only [Bool.and_eq_true,beq_iff_eq] at hB2;obtain ⟨⟨⟨⟨hr,hi⟩,hj⟩,J84⟩,J85⟩:=hB2;refine ⟨λh0=>(by rw [h0] at hr;cases hr),λx hx o ho=>?_⟩;rw [hr] at hx;simp only [List.mem_cons,List.not_mem_nil,or_false] at hx;rcases hx with rfl|rfl
  ·rw [if_pos hi];exact λn=>wpOp_mono (λa w hh=>⟨hh.1,Gy hSd hs ti _ a w hh.1 J84 (hh.2 0)⟩) (Q1t hi ho h1 n)
  ·rw [if_pos hj];exact λn=>wpOp_mono (λa w hh=>⟨hh.1,by rw [hB.1];exact Gy hSd hs tj _ a w hh.1 J85 (hh.2 0)⟩) (Q1t hj ho h2 n)
theorem Ef {id:Nat} {a:Act} {w:World} {l:List Oper} (S:World->Prop) (ks:List Nat) (t:O5) (hm:P.follows .mixedOrders=true) (hB:Qos l.toArray ks t=true)
  (hSd: ∀w n,S w->S (w.drewN n)) (hS:S w) (h:Xt P l.toArray ks S Q t a w):(Code.region id l.toArray true).wp P Q a w:=by
 simp only [Qos,Bool.and_eq_true,beq_iff_eq] at hB;refine wp_region_any hm (Kl _ _ _ _ ?_);have:=Ue _ (Array.replicate l.toArray.size false) a w 1 (Gy hSd hB.1.1 t _ a _ hS hB.2 h);rw [hB.1.2] at this;exact this
theorem Zm {o:List Nat} {a:Act} {w:World} (h:J1 P ops ks S Q o a w):Xt P ops ks S Q (.leaf o) a w:=h
theorem Xl {pre:List Nat} {i j:Nat} {ti tj:O5} {a:Act} {w:World} (h:J1 P ops ks S (goes λa w=>S w/\J1 P ops ks S (goes (Xt P ops ks S Q ti)) [i] a w/\J1 P ops ks S (goes (Xt P ops ks S Q tj)) [j] a w) pre a w):Xt P ops ks S Q (.fork pre i j ti tj) a w:=h
theorem Xk {i j:Nat} {ti tj:O5} {a:Act} {w:World} (hS: ∀n,S (w.drewN n)) (h1: ∀n,J1 P ops ks S (goes (Xt P ops ks S Q ti)) [i] a (w.drewN n)) (h2: ∀n,J1 P ops ks S (goes (Xt P ops ks S Q tj)) [j] a (w.drewN n)):
  J1 P ops ks S (goes λa w=>S w/\J1 P ops ks S (goes (Xt P ops ks S Q ti)) [i] a w/\J1 P ops ks S (goes (Xt P ops ks S Q tj)) [j] a w) [] a w:=λn=>⟨hS n,h1 n,h2 n⟩
theorem Ji {t:O5} {a:Act} {w:World} (h: ∀n,Xt P ops ks S Q t a (w.drewN n)):J1 P ops ks S (goes (Xt P ops ks S Q t)) [] a w:=h
end
end Go.Mer
