/- store -/
import Derived.Test.YtgnkmjeoaoongaaGreatDoorVc3
set_option maxRecDepth 100000
set_option maxHeartbeats 4000000
namespace Go.Mer
open Go Go.RowKit
section
variable {P:Program} {ops:Array Oper} {Q:Exit->Act->World->Prop} {S:World->Prop} {ks:List Nat}
end
theorem Q21 {P:Program} {ops:Array Oper} {rest:List Oper} {op:Oper} {a:Act} {w:World} {Q:Exit->Act->World->Prop} (hgd:op.guard=none) (ty:TypeId) (x y:Operand) (ho:op.op= .store ty x y)
  (b o:Nat) (l:List Value) (hx:a.eval x= .pointer (some ⟨b,o,none⟩)) (hy:a.eval y= .agg l.toArray)
  (ht:Hid (w.there b o l.length)) (hi:(P.info? ty).map (·.size)=some l.length) (h1:l.all (·.oneCell')=true)
  (h:wpList P ops Q rest (a.put op.dst undef) (w.setCells b o l)):wpList P ops Q (op::rest) a w:=
 wpList_store_mid hgd ty x y ho b o l.toArray hx hy (by simpa using ht.out) (by simpa using hi) (by simpa using h1) (by simpa using h)
theorem Kp.setCells (g:Nat): ∀(l:List Value) (o:Nat) (a:World),Kp (One g) a (a.setCells g o l)
 |[],o,a=>Kp.refl _ _
 |u::l,o,a=>by
  have h1:Kp (One g) a (a.setCell ⟨g,o,none⟩ u):=(Kp.refl (One g) a).setCell (p:=⟨g,o,none⟩) (.inl rfl) u;have h2:=h1.Q0 (Kp.setCells g l (o+1) (a.setCell ⟨g,o,none⟩ u));simpa [World.setCells] using h2
theorem Q9d {w:World} {b o n:Nat} {cs:Array Value} {t:TypeId} (h:w.heap[b]?=some (.cells cs t (0,0))) (hn:o+n<=cs.size):w.there b o n:=λj hj=>by
 rw [Q4 h,Qh h];simp
 omega
theorem Qe5 {w:World} {e:TypeId} {sz g off n cap:Nat} {xs:List Value} (h:Own w e sz (.slice (some ⟨g,off,none⟩) n cap) n xs) (i:Nat) (ys:List Value) (hf:i+ys.length<=n*sz):
  Own (w.setCells g (off+i) ys) e sz (.slice (some ⟨g,off,none⟩) n cap) n (xs.take i++(ys++xs.drop (i+ys.length))):=by
 obtain ⟨hl,a,cap',hv,h1,h2,h3,h4⟩:=h;injection hv with hv1 hv2 hv3;subst hv3;obtain ⟨g',off',cur,had,hg,hfit,hx⟩:=h4 ⟨g,off,none⟩ hv1.symm;injection had with e1 e2;subst e1;subst e2;have hle:n*sz<=cap*sz:=Nat.mul_le_mul_right _ h1;have hcs:cur.toList.length=cur.size:=Array.length_toList
 have hsp:cur.toList=cur.toList.take off++(xs++cur.toList.drop (off+n*sz)):=by
  rw [<-hx,<-List.drop_drop,List.take_append_drop,List.take_append_drop]
 have hxs:xs=xs.take i++((xs.drop i).take ys.length++xs.drop (i+ys.length)):=by
  rw [<-List.drop_drop,List.take_append_drop,List.take_append_drop]
 obtain ⟨cur',c1,c2,c3⟩:=Ud (off:=off+i) (ys:=ys) hg (X:=cur.toList.take off++xs.take i) (Y:=(xs.drop i).take ys.length) (Z:=xs.drop (i+ys.length)++cur.toList.drop (off+n*sz)) (by
  conv=>lhs;rw [hsp,hxs]
  simp only [List.append_assoc]) (by rw [List.length_append,List.length_take,List.length_take];omega) (by rw [List.length_take,List.length_drop];omega)
 have hnl:(xs.take i++(ys++xs.drop (i+ys.length))).length=n*sz:=by
  rw [List.length_append,List.length_append,List.length_take,List.length_drop];omega
 refine ⟨hnl,some ⟨g,off,none⟩,cap,rfl,h1,h2,λh=>(by cases h),λad had=>?_⟩;injection had with had;subst had;refine ⟨g,off,cur',rfl,c1,by omega,?_⟩;have e:cur'.toList=cur.toList.take off++((xs.take i++(ys++xs.drop (i+ys.length)))++cur.toList.drop (off+n*sz)):=by rw [c2];simp only [List.append_assoc]
 have hol:(cur.toList.take off).length=off:=by rw [List.length_take];omega
 rw [e,List.drop_append,hol,Nat.sub_self,List.drop_zero,List.drop_of_length_le (by omega),List.nil_append,<-hnl,List.take_append_of_le_length (Nat.le_refl _),List.take_length]
theorem Qgg {w:World} {e:TypeId} {sz n cap:Nat} {a:Option Addr} {xs:List Value} (h:Own w e sz (.slice a n cap) n xs) (k:Nat) (hk:k<=n):Own w e sz (.slice a k cap) k (xs.take (k*sz)):=by
 obtain ⟨hl,a',cap',hv,h1,h2,h3,h4⟩:=h;injection hv with hv1 hv2 hv3;subst hv1;subst hv3;have hle:k*sz<=n*sz:=Nat.mul_le_mul_right _ hk;refine ⟨by rw [List.length_take];omega,a,cap,rfl,by omega,h2,h3,λad had=>?_⟩;obtain ⟨g,off,cur,h5,h6,h7,h8⟩:=h4 ad had;exact ⟨g,off,cur,h5,h6,h7,by rw [<-h8,List.take_take,Nat.min_eq_left hle]⟩
theorem Q3r {w:World} {e:TypeId} {sz g off n cap:Nat} {xs:List Value} (h:Own w e sz (.slice (some ⟨g,off,none⟩) n cap) n xs) (i m:Nat) (hf:i+m<=n*sz):w.there g (off+i) m:=by
 obtain ⟨hl,a,cap',hv,h1,h2,h3,h4⟩:=h;injection hv with hv1 hv2 hv3;subst hv3;obtain ⟨g',off',cur,had,hg,hfit,hx⟩:=h4 ⟨g,off,none⟩ hv1.symm;injection had with e1 e2;subst e1;subst e2;have hle:n*sz<=cap*sz:=Nat.mul_le_mul_right _ h1;exact Q9d hg (by omega)
theorem Q1e {P:Program} (w:World) (t e:TypeId) (z:Value) (ht:P.underlying t=some (.slice e)) (hv: ∀w,(zeroValue e).run P w= .ok z w) (h1: ∀v∈z.cells.toList,v.oneCell'=true) (b o n c sz:Nat) (hs:z.cells.size=sz) (hn:0<n) (h0:0<sz) (hth:w.there b o (n*sz)):
  ∃L:List Value,L.length=n*sz/\ ∀ty,(Builtin.clear_ #[t] ty #[.slice (some ⟨b,o,none⟩) n c]).run P w= .ok (.tuple #[]) (w.setCells b o L):=by
 have hL:(Builtin.zeroCells z.cells n).toList.length=n*sz:=by simp [Builtin.zeroCells,hs]
 refine ⟨(Builtin.zeroCells z.cells n).toList,hL,λty=>?_⟩
 have hst:=run_storeCells_cells (P:=P) b o (Builtin.zeroCells z.cells n).toList 0 w (λj hj=>by rw [Nat.add_zero];exact (hth j (by omega)).1) (λj hj=>by rw [Nat.add_zero];exact (hth j (by omega)).2) (λv hv'=>by
  simp only [Builtin.zeroCells,Array.toList_map,List.mem_map] at hv';obtain ⟨i,_,rfl⟩:=hv';have hlt:i % z.cells.size<z.cells.size:=Nat.mod_lt _ (by omega);rw [getElem!_pos z.cells _ hlt];exact h1 _ (Array.getElem_mem_toList hlt))
 simp only [Nat.add_zero] at hst;obtain ⟨m,rfl⟩: ∃m,n=m+1:=⟨n-1,by omega⟩;simp [Builtin.clear_,run_underlying ht,hv,hst]
end Go.Mer
namespace Go.Proofs.YtgnkmjeoaoongaaGreatDoor
open Go.RowKit Go.Mer
theorem B6 (w:World) (x:Qe) (b:Nat) (u:Int) (hb:w.cell? ⟨b,0,none⟩=some (.int .i64 u)):
  Calls Tryz.prog 84 #[.agg (recC x).toArray, .pointer (some ⟨b,0,none⟩)] w λe w'=>e= .returned (.bool (decide (x.r.seq<=u)))/\Kp No w w':=by
 obtain ⟨w1,hw1⟩: ∃W,W=w.alloc (.cells (recC x).toArray 46):=⟨_,rfl⟩;have k1:Kp No w w1:=by rw [hw1];exact zK.alloc _
 have b1:w1.heap[w.heap.size]?=some (.cells (recC x).toArray 46 (0,0)):=by rw [hw1];exact heap_alloc_new w _
 have hbl:b<w.heap.size:=World.block_lt_of_cell? w _ hb;have c1:w1.cell? ⟨w.heap.size,1,none⟩=some (.int .i64 x.r.seq):=by rw [Q4 b1];rfl
 have c2:w1.cell? ⟨b,0,none⟩=some (.int .i64 u):=(k1.cell (p:=⟨b,0,none⟩) hbl λx=>x).trans hb;have hl1:=Q7 b1;have J0w:=k1.lt hbl;obtain ⟨sq,Q4w⟩: ∃z,z=x.r.seq:=⟨_,rfl⟩;rw [<-Q4w] at c1⊢;have HW1:=zz hw1;have Yq:=zz k1;clear hw1 k1 b1 hb Q4w hbl;go_enter Tryz.func84,Tryz.ntmps84
 go_upto_region 1 with fail
 rw [<-HW1.out];go_wp2_with fail
 go_ret
 exact ⟨rfl,Yq.out⟩
def Zz (u:Int) (K:List Qe):List Qe:=K.filter λx=>decide (u<x.r.seq)
def Qzx (w:World) (u:Int) (K:List Qe) (e:Ending) (w':World):Prop:=
 ∃z:Int,e= .returned (.int .i64 z)/\Kp No w w'/\((z= -1/\ ∀x∈K,u<x.r.seq)\/ ∃(i:Nat) (h:i<K.length),z=(i:Int)/\(∀x∈K.take i,u<x.r.seq)/\K[i].r.seq<=u)
theorem Qmv (w:World) (ka:Option Addr) (kc:Nat) (K:List Qe) (hR:Rd w w.heap.size ka (K.flatMap recC)) (hn:K.length<=1000000) (b:Nat) (u:Int) (hb:w.cell? ⟨b,0,none⟩=some (.int .i64 u)):
  Calls Tryz.prog 136 #[.slice ka K.length kc, .func (.func 84) #[] #[.pointer (some ⟨b,0,none⟩)]] w (Qzx w u K):=by
 obtain ⟨n,A2⟩: ∃n,n=K.length:=⟨_,rfl⟩;have hnn:n<=1000000:=by omega
 have hbl:b<w.heap.size:=World.block_lt_of_cell? w _ hb;have H:=zz (And.intro hR (And.intro A2 (And.intro hb hbl)));rw [<-A2];clear hR A2 hn hb hbl;go_enter Tryz.func136,Tryz.ntmps136
 go_wp2_with fail
 rename World=>w0;go_loopw [8] (λi wr=> ∃k:Nat,k<=n/\i= .int .i64 (k:Int)/\Hid (Kp No w0 wr)/\Hid (∀x∈K.take k,u<x.r.seq)) (λi _=>n-(intOf i).toNat)
 case atStart=>exact ⟨0,Nat.zero_le _,rfl,zz zK,zz λx hx=>absurd hx (by simp)⟩
 case round=>
  obtain ⟨k,hk,rfl,HK,HA⟩:=hrel;rcases Nat.lt_or_ge k n with hlt|hge
  ·have Y8:k<K.length:=by have:=H.out.2.1;omega
   obtain ⟨g,off,rfl,hgl,hgr⟩:=Jx H.out.1 Y8;have hts:=List.take_succ_eq_append_getElem Y8;obtain ⟨x,hx⟩: ∃x,x=K[k]:=⟨_,rfl⟩;rw [<-hx] at hgr hts;have R1:=zz (hgr wr HK.out);have hg3:=HK.out.lt hgl;have HF:=zz (B6 wr x b u ((HK.out.cell (p:=⟨b,0,none⟩) H.out.2.2.2 λx=>x).trans H.out.2.2.1));have HT:=zz hts;have J44:=zz (show ∃h:k<K.length,x=K[k] from ⟨Y8,hx⟩);by_cases hq:x.r.seq<=u
   ·have HQ:=zz (decide_eq_true hq);have Je9:=zz hq;clear hq hts hgr hx hgl Y8;go_wp2_with (refine Qj rfl 46 _ rfl g (off+k*9) rfl _ _ R1 Tryz.underlying46 rfl (by kernel_rfl) ?_)
    refine HF.out.mono ?_;rintro e w2 ⟨rfl,k2⟩;rw [HQ.out];have J9:=zz (HK.out.Q0 k2);clear k2 HF;go_wp2_with fail
    go_ret
    obtain ⟨Y8,hxk⟩:=J44.out;exact ⟨_,rfl,J9.out, .inr ⟨k,Y8,rfl,HA.out,by rw [<-hxk];exact Je9.out⟩⟩
   ·have HQ:=zz (decide_eq_false hq);clear hts hgr hx hgl Y8
    have HA2:=zz (show ∀y∈K.take (k+1),u<y.r.seq from λy hy=>by
     rw [HT.out,List.mem_append,List.mem_singleton] at hy;rcases hy with hy|rfl
     ·exact HA.out y hy
     ·omega)
    clear hq;go_wp2_with (refine Qj rfl 46 _ rfl g (off+k*9) rfl _ _ R1 Tryz.underlying46 rfl (by kernel_rfl) ?_)
    refine HF.out.mono ?_;rintro e w2 ⟨rfl,k2⟩;rw [HQ.out];have J9:=zz (HK.out.Q0 k2);clear k2 HF;go_wp2_with fail
    go_roundw
    case rel=>exact ⟨k+1,hlt,by go_num,J9,HA2⟩
    case measure=>simp [intOf];omega
  ·obtain rfl:n=k:=by omega
   clear hge;go_wp2_with fail
   go_ret
   exact ⟨_,rfl,HK.out, .inl ⟨rfl,by have:=HA.out;rw [H.out.2.1,List.take_length] at this;exact this⟩⟩
structure Qhv (w:World) (u:Int) (K:List Qe) (g off n kc i j:Nat) (X:List Qe) (wr:World):Prop where
 own:Own wr 46 9 (.slice (some ⟨g,off,none⟩) n kc) n (X.flatMap recC)
 len:X.length=n
 kept:X.take i=Zz u (K.take j)
 rest:X.drop j=K.drop j
 kp:Kp (Mer.One g) w wr
section
variable {w wr W:World} {u:Int} {K X:List Qe} {g off n kc i j:Nat}
theorem Qhv.at_ (h:Qhv w u K g off n kc i j X wr) (hKn:K.length=n) (hj:j<n): ∃h1:j<X.length,∃h2:j<K.length,X[j]=K[j]:=by
 have hX:=h.len;refine ⟨by omega,by omega,?_⟩;have e:=congrArg (λl:List Qe=>l[0]?) h.rest;simp only [List.getElem?_drop,Nat.add_zero,List.getElem?_eq_getElem (show j<X.length by omega),List.getElem?_eq_getElem (show j<K.length by omega)] at e;exact Option.some.inj e
theorem Q35 {j:Nat} (h:X.drop j=K.drop j):X.drop (j+1)=K.drop (j+1):=by rw [<-List.drop_drop,<-List.drop_drop,h]
theorem Qhv.skip (h:Qhv w u K g off n kc i j X wr) (hk:Kp No wr W) (hj:j<K.length) (hq: ¬u<K[j].r.seq):Qhv w u K g off n kc i (j+1) X W:=by
 refine ⟨h.own.keep hk λ_ _ x=>x,h.len,?_,Q35 h.rest,h.kp.Qr hk⟩;rw [h.kept];unfold Zz;rw [List.take_succ_eq_append_getElem hj,List.filter_append,List.filter_cons_of_neg (by simpa using hq)];simp
theorem Qhv.more (h:Qhv w u K g off n kc i j X wr) (hk:Kp No wr W) (hKn:K.length=n) (hj:j<K.length) (hi:i<=j) (hq:u<K[j].r.seq):Qhv w u K g off n kc (i+1) (j+1) (X.set i K[j]) (W.setCells g (off+i*9) (recC K[j])):=by
 have hX:=h.len;have ho:=Qe5 (h.own.keep hk λ_ _ x=>x) (i*9) (recC K[j]) (by rw [Ua];omega)
 have hc:(X.flatMap recC).take (i*9)++(recC K[j]++(X.flatMap recC).drop (i*9+(recC K[j]).length))=(X.set i K[j]).flatMap recC:=by
  rw [Ua,show i*9+9=(i+1)*9 by omega,Yg recC 9 Ua,Un recC 9 Ua,List.set_eq_take_append_cons_drop,if_pos (by omega),List.flatMap_append,List.flatMap_cons]
 rw [hc] at ho;refine ⟨ho,by rw [List.length_set];exact hX,?_,?_,h.kp.Q0 ((Kp.Qx hk).Q0 (Kp.setCells g _ _ _))⟩
 ·have h1:(X.set i K[j]).take (i+1)=X.take i++[K[j]]:=by
   rw [List.take_succ_eq_append_getElem (by rw [List.length_set];omega),List.getElem_set_self,List.take_set_of_le (Nat.le_refl _)]
  rw [h1,h.kept];unfold Zz;rw [List.take_succ_eq_append_getElem hj,List.filter_append,List.filter_cons_of_pos (by simpa using hq)];simp
 ·rw [List.drop_set,if_pos (by omega)];exact Q35 h.rest
end
def Qoh (w:World) (u:Int) (ka:Option Addr) (kc:Nat) (K:List Qe) (e:Ending) (w':World):Prop:=
 ∃i:Nat,e= .returned (.slice ka i kc)/\i=(Zz u K).length/\Own w' 46 9 (.slice ka i kc) i ((Zz u K).flatMap recC)/\Kp (λg=>(Value.slice ka K.length kc).ownBlock=some g) w w'
theorem Q7n (w:World):(zeroValue 46).run Tryz.prog w= .ok (.agg #[.int .i64 0, .int .i64 0, .string ⟨#[]⟩, .int .i64 0, .int .i64 0, .int .i64 0, .slice none 0 0, .bool false, .int .i64 0]) w:=by kernel_rfl
theorem Qmt (w:World) (ka:Option Addr) (kc:Nat) (K:List Qe) (hO:Own w 46 9 (.slice ka K.length kc) K.length (K.flatMap recC)) (hn:K.length<=1000000) (b:Nat) (u:Int) (hb:w.cell? ⟨b,0,none⟩=some (.int .i64 u)) (Jc1:(Value.slice ka K.length kc).ownBlock≠some b):
  Calls Tryz.prog 83 #[.slice ka K.length kc, .func (.func 84) #[] #[.pointer (some ⟨b,0,none⟩)]] w (Qoh w u ka kc K):=by
 obtain ⟨n,A2⟩: ∃n,n=K.length:=⟨_,rfl⟩;have hnn:n<=1000000:=by omega
 have hbl:b<w.heap.size:=World.block_lt_of_cell? w _ hb;have hix:=Qmv w ka kc K (Own.rd' hO) hn b u hb;rw [<-A2] at hix;have Jaa:=zz hix
 have hkc:n<=kc:=by
  obtain ⟨_,a9,c9,e9,h9,_⟩:=id hO;injection e9 with _ _ e9;omega
 have H:=zz (And.intro hO (And.intro A2 (And.intro hb (And.intro hbl Jc1))));rw [<-A2];clear hO A2 hn hb hbl Jc1 hix;go_enter Tryz.func83,Tryz.ntmps83
 go_wp2_with fail
 refine Jaa.out.mono ?_;intro e w1 hq;unfold Qzx at hq;obtain ⟨z,rfl,k1,hz⟩:=hq;have Yq:=zz k1;clear k1 Jaa;rcases hz with ⟨rfl,hall⟩|⟨i0,hi0,rfl,hall,hle⟩
 ·have HE:=zz (show Qoh w u ka kc K (.returned (.slice ka n kc)) w1 from by
   have e:Zz u K=K:=List.filter_eq_self.2 λx hx=>decide_eq_true (hall x hx);refine ⟨n,rfl,by rw [e];exact H.out.2.1,?_,Kp.Qx Yq.out⟩;rw [e];have:=H.out.1.keep Yq.out λ_ _ x=>x;rwa [<-H.out.2.1] at this)
  clear hall;go_wp2_with fail
  go_ret
  exact HE.out
 ·have J1e:i0<n:=by rw [H.out.2.1];exact hi0
  have hz1:((i0:Int)== -1)=false:=by rw [beq_eq_false_iff_ne];omega
  obtain ⟨g,off,rfl,hgl,hrr⟩:=Jx (Own.rd' H.out.1) hi0;have hgb:g≠b:=λe=>H.out.2.2.2.2 (by rw [e];rfl)
  have HI0:=zz (show Qhv w1 u K g off n kc i0 (i0+1) K w1 from ⟨by
   have:=H.out.1.keep Yq.out λ_ _ x=>x;rwa [<-H.out.2.1] at this,H.out.2.1.symm,by
   unfold Zz;rw [List.take_succ_eq_append_getElem hi0,List.filter_append,List.filter_eq_self.2 (λx hx=>decide_eq_true (hall x hx)),List.filter_cons_of_neg (by simpa using hle)];simp,rfl,Kp.refl _ _⟩)
  have HG:=zz (And.intro hgl (And.intro hgb (show w1.cell? ⟨b,0,none⟩=some (.int .i64 u)/\b<w1.heap.size from ⟨(Yq.out.cell (p:=⟨b,0,none⟩) H.out.2.2.2.1 λx=>x).trans H.out.2.2.1,Yq.out.lt H.out.2.2.2.1⟩)));have Jdp:=zz (Yq.out.lt hgl);have hi1:i0+1<=n:=J1e;clear hgb hrr hall hle hgl hi0 J1e;go_wp2_with fail
  go_loopw [5,6] (λv q wr=> ∃(ii jj:Nat) (X:List Qe),ii<jj/\jj<=n/\v= .int .i64 (ii:Int)/\q= .int .i64 (jj:Int)/\Hid (Qhv w1 u K g off n kc ii jj X wr)) (λ_ q _=>n-(intOf q).toNat)
  case atStart=>exact ⟨i0,i0+1,K,Nat.lt_succ_self _,hi1,rfl,by go_num,HI0⟩
  case round=>
   clear HI0 hi1 hz1;obtain ⟨ii,jj,X,hij,hj,rfl,rfl,HI⟩:=hrel;have hin:ii<n:=by omega
   have hgw:g<wr.heap.size:=HI.out.kp.lt Jdp.out;have cb:wr.cell? ⟨b,0,none⟩=some (.int .i64 u):=(HI.out.kp.cell (p:=⟨b,0,none⟩) HG.out.2.2.2 λe=>HG.out.2.1 (show b=g from e).symm).trans HG.out.2.2.1;have hbw:=HI.out.kp.lt HG.out.2.2.2;rcases Nat.lt_or_ge jj n with hlt|hge
   ·obtain ⟨hX,Qxu,Jbz⟩:=HI.out.at_ H.out.2.1.symm hlt;obtain ⟨g',off',e',_,hgr⟩:=Jx (Own.rd' HI.out.own) hX;injection e' with e';injection e' with e1 e2;subst e1;subst e2;rw [Jbz] at hgr;obtain ⟨x,hx⟩: ∃x,x=K[jj]:=⟨_,rfl⟩;rw [<-hx] at hgr;have R1:=zz (hgr wr zK);obtain ⟨w2,hw2⟩: ∃W,W=wr.alloc (.cells (recC x).toArray 46):=⟨_,rfl⟩;obtain ⟨p,hp⟩: ∃p,p=wr.heap.size:=⟨_,rfl⟩;have k2:Kp No wr w2:=by rw [hw2];exact zK.alloc _
    have b2:w2.heap[p]?=some (.cells (recC x).toArray 46 (0,0)):=by rw [hw2,hp];exact heap_alloc_new wr _
    have R2:=zz (show w2.rangeAt p 0 (recC x) from by have:=Qg b2 0 9;exact this);have HF:=zz (B6 w2 x b u ((k2.cell (p:=⟨b,0,none⟩) hbw λx=>x).trans cb));have hpl:=Q7 b2;have HW2:=zz (And.intro hw2 hp);have J9:=zz k2;have HB2:=zz b2;have HX:=zz (show ∃h:jj<K.length,x=K[jj] from ⟨Qxu,hx⟩);have hg2:=k2.lt hgw;clear hX Qxu Jbz hgr hx hw2 hp k2 b2 cb
    go_upto_region 8 with (first
     |(refine Qj rfl 46 _ rfl g (off+jj*9) rfl _ _ R1 Tryz.underlying46 rfl (by kernel_rfl) ?_)
     |(refine Qy rfl 46 _ _ rfl wr.heap.size (by rfl) _ _ _ rfl rfl (by kernel_rfl) (by rfl) (by rfl) ?_))
    rw [<-HW2.out.1,<-HW2.out.2];go_wp2_with (refine Qj rfl 46 _ rfl p 0 rfl _ _ R2 Tryz.underlying46 rfl (by kernel_rfl) ?_)
    refine HF.out.mono ?_;rintro e w3 ⟨rfl,k3⟩;have Zk:=zz (J9.out.Q0 k3);have b3:=k3.get HB2.out λx=>x;have R3:=zz (show w3.rangeAt p 0 (recC x) from by have:=Qg b3 0 9;exact this);have hp3:=Q7 b3;have hg3:=Zk.out.lt hgw;clear k3 b3 hpl hg2 HF hgw hbw;by_cases hq:x.r.seq<=u
    ·have e1:decide (x.r.seq<=u)=true:=decide_eq_true hq
     have HN:=zz (show Qhv w1 u K g off n kc ii (jj+1) X w3 from by
      obtain ⟨Qxu,hx⟩:=HX.out;exact HI.out.skip Zk.out Qxu (by rw [<-hx];omega))
     clear hq;go_wp2_with fail
     go_roundw
     case rel=>exact ⟨ii,jj+1,X,by omega,hlt,rfl,by go_num,HN⟩
     case measure=>simp [intOf];omega
    ·have e1:decide (x.r.seq<=u)=false:=decide_eq_false hq;have Jeh:=zz (show w3.there g (off+ii*9) (recC x).length from Q3r (HI.out.own.keep Zk.out λ_ _ x=>x) (ii*9) 9 (by omega))
     have HN:=zz (show Qhv w1 u K g off n kc (ii+1) (jj+1) (X.set ii x) (w3.setCells g (off+ii*9) (recC x)) from by
      obtain ⟨Qxu,hx⟩:=HX.out;have:=HI.out.more Zk.out H.out.2.1.symm Qxu (by omega) (by rw [<-hx];omega);rw [<-hx] at this;exact this)
     have J5t:=zz (show (recC x).all (λv=>v.oneCell')=true by rfl);have J5f:=zz (show (Tryz.prog.info? 46).map (λi=>i.size)=some (recC x).length by kernel_rfl);clear hq
     go_upto_region 10 with (first
      |(refine Qj rfl 46 _ rfl p 0 rfl _ _ R3 Tryz.underlying46 rfl (by kernel_rfl) ?_)
      |(refine Q21 rfl 46 _ _ rfl g (off+ii*9) (recC x) rfl rfl Jeh J5f.out J5t.out ?_))
     go_simp
     go_wp2_with fail
     go_roundw
     case rel=>exact ⟨ii+1,jj+1,X.set ii x,by omega,hlt,by go_num,by go_num,HN⟩
     case measure=>simp [intOf];omega
   ·obtain rfl:jj=n:=by omega
    obtain ⟨LZ,Jbo,hcl⟩:=Q1e (P:=Tryz.prog) wr 26 46 _ Tryz.underlying26 Q7n (by decide) g (off+ii*9) (jj-ii) (kc-ii) 9 rfl (by omega) (by decide) (Q3r HI.out.own (ii*9) ((jj-ii)*9) (by omega));have hput:=Qe5 HI.out.own (ii*9) LZ (by rw [Jbo];omega);have Qvf:=Qgg hput ii (by omega)
    have HE:=zz (show Qoh w u (some ⟨g,off,none⟩) kc K (.returned (.slice (some ⟨g,off,none⟩) ii kc)) (wr.setCells g (off+ii*9) LZ) from by
     have hkk:=HI.out.kept;rw [H.out.2.1,List.take_length] at hkk;have Qxw:=HI.out.len;refine ⟨ii,rfl,by rw [<-hkk,List.length_take];omega,?_,?_⟩
     ·rw [List.take_append_of_le_length (by rw [List.length_take,Xt recC 9 Ua];omega),List.take_take,Nat.min_self,Yg recC 9 Ua,hkk] at Qvf;exact Qvf
     ·exact ((Yq.out.Qx (S:=Mer.One g)).Q0 (HI.out.kp.Q0 (Kp.setCells g _ _ _))).mono λi _ hi=>by rw [show i=g from hi];rfl)
    have hic:ii<=kc:=by have:=hkc;omega
    clear Jbo hput Qvf hge;go_upto_region 12 with (simp only [hcl])
    clear hcl;go_wp2_with fail
    go_ret
    exact HE.out
end Go.Proofs.YtgnkmjeoaoongaaGreatDoor
