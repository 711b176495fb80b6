/-
  WFit, SXStM, SXMay.
-/
import Derived.Test.YtgnkmjeoaoongaaGreatDoorXc8
import Derived.Test.YtgnkmjeoaoongaaGreatDoorXc9
import Derived.Test.YtgnkmjeoaoongaaGreatDoorXd0
set_option maxRecDepth 100000
set_option maxHeartbeats 4000000
namespace Go.Proofs.YtgnkmjeoaoongaaGreatDoor
open Go.RowKit Go.Mer
section
variable {β:Type}
theorem K9 (l:List (ByteArray×β)) {k y:ByteArray} (v:β) (h:y≠k):Qo (Qt l k v) y=Qo l y:=by
 unfold Qt;split
 ·induction l with
  |nil=>rfl
  |cons p l ih=>
   have ih':Qo (l.map λp=>if p.1=k then (k,v) else p) y=Qo l y:=by
    by_cases hk:k∈l.map (·.1)
    ·exact ih hk
    ·congr 1
     conv=>rhs;rw [<-List.map_id l]
     refine List.map_congr_left λq hq=>?_;rw [if_neg λe=>hk (List.mem_map.2 ⟨q,hq,e⟩)];rfl
   unfold Qo at ih'⊢;rw [List.map_cons,List.find?_cons,List.find?_cons];by_cases hp:p.1=k
   ·rw [if_pos hp];have e1:decide (k=y)=false:=decide_eq_false (λe=>h e.symm);have e2:decide (p.1=y)=false:=decide_eq_false (λe=>h (by rw [<-e,hp]));simp only [e1,e2];exact ih'
   ·rw [if_neg hp];cases hd:decide (p.1=y)
    ·exact ih'
    ·rfl
 ·unfold Qo;rw [List.find?_append];cases hf:l.find? λp=>decide (p.1=y) with
  |some p=>rfl
  |none=>
   have e1:decide (k=y)=false:=decide_eq_false (λe=>h e.symm);simp [e1]
theorem Q16 (l:List (ByteArray×β)) (k y:ByteArray):Qo (X3 l k) y=if y=k then none else Qo l y:=by
 split
 ·next h=>rw [h];exact Qku l k
 ·next h=>
  unfold Qo X3;rw [List.find?_filter];congr 1
  congr 1
  funext p
  by_cases hp:p.1=y
  ·simp [hp,h]
  ·simp [hp]
theorem Q2a {l:List (ByteArray×β)} (k y:ByteArray) (v:β):Qo (Qt l k v) y=if y=k then some v else Qo l y:=by
 split
 ·next h=>rw [h];exact D7 l k v
 ·next h=>exact K9 l v h
end
theorem Fj {β:Type} {l:List (ByteArray×β)} {k:ByteArray} {v:β} {p:ByteArray×β} (h:p∈Qt l k v):p.1=k\/ ∃q∈l,q.1=p.1:=by
 unfold Qt at h;split at h
 ·obtain ⟨q,hq,rfl⟩:=List.mem_map.1 h;split
  ·exact .inl rfl
  ·exact .inr ⟨q,hq,rfl⟩
 ·rcases List.mem_append.1 h with h|h
  ·exact .inr ⟨p,h,rfl⟩
  ·obtain rfl:=List.mem_singleton.1 h;exact .inl rfl
theorem Q30 {l:Jo} {k:ByteArray} {v:Ek} (h:Vh l) (hk:Jh k=true):Vh (Qt l k v):=λp hp=>by
 rcases Fj hp with e|⟨q,hq,e⟩
 ·rw [e];exact hk
 ·rw [<-e];exact h q hq
theorem Qmk {l:Jo} {x:ByteArray} (h:Qo l x=none):(Dz l x).1=[]:=by unfold Dz;rw [h]
theorem Qkb {P:ByteArray} {m n:Nat} (h:Eh P m=Eh P n):m=n:=by
 unfold Eh at h;have:=congrArg (λx:ByteArray=>x.data.toList) h;exact Qc8 (p:=P.data.toList) (by simpa using this)
theorem Qkc {P:ByteArray} {n:Nat} (h:n<100000000):Q2p P (Eh P n)=true:=by
 unfold Q2p Eh;simp only
 rw [Q8q _ h];rfl
def Vu (r y:Nat) (P:ByteArray) (o:Nat) (st:J7) (lv kv:Value):Array Value:=
 #[Xg r, .string P, .int .i64 (o:Int),Xg y, .int .i64 (st.Xu:Int),lv, .int .i64 st.mm, .int .i64 st.mc,
  .int .i64 (Qp st.of 0).seq, .int .i64 (Qp st.of 0).m, .int .i64 (Qp st.of 0).c, .int .i64 (Qp st.of 1).seq, .int .i64 (Qp st.of 1).m, .int .i64 (Qp st.of 1).c,
  .int .i64 (Qp st.of 2).seq, .int .i64 (Qp st.of 2).m, .int .i64 (Qp st.of 2).c, .int .i64 (Qp st.of 3).seq, .int .i64 (Qp st.of 3).m, .int .i64 (Qp st.of 3).c,
  .int .i64 (Qp st.of 4).seq, .int .i64 (Qp st.of 4).m, .int .i64 (Qp st.of 4).c,kv, .int .i64 (st.n:Int), .bool st.dead]
def Yb (p:ByteArray×Ja):List Value:=[.string p.1,Xg p.2.b]
theorem Xd (p:ByteArray×Ja):(Yb p).length=2:=rfl
theorem E8 (p:ByteArray×Ja): ∀u∈Yb p,u.oneCell'=true:=by
 intro u hu;simp only [Yb,List.mem_cons,List.not_mem_nil,or_false] at hu;rcases hu with rfl|rfl<;>rfl
theorem Kd:(Tryz.prog.info? 158).map (λi=>((i.zero.map λz=>z.cells.size),i.size,i.bytes))=some (some 2,2,24):=by kernel_rfl
structure Xx (w:World) (x r y:Nat) (P:ByteArray) (o:Nat) (st:J7) (la:Option Addr) (lc:Nat) (cs:Z7) (ka:Option Addr) (kc:Nat) (K:List Qa):Prop where
 cell:w.heap[x]?=some (.cells (Vu r y P o st (.slice la cs.length lc) (.slice ka K.length kc)) 64 (0,0))
 row:Own w 158 2 (.slice la cs.length lc) cs.length (cs.flatMap Yb)
 Vl:Xn 148 w cs
 kept:Co w ka kc K
 Et:J3 cs=st.keys
 Gn:st.kept=K.map Qa.r
def Jj (x:Nat) (la:Option Addr) (lc:Nat) (cs:Z7) (ka:Option Addr) (kc:Nat) (K:List Qa):Nat->Prop:=λk=>k=x\/(Value.slice la cs.length lc).ownBlock=some k\/Ej cs k\/Cp ka kc K k
section
variable {w w':World} {cs:Z7} {la ka:Option Addr} {lc kc:Nat} {K:List Qa} {x r y o:Nat} {P Q:ByteArray} {st:J7}
theorem Xx.keep {S:Nat->Prop} (h:Xx w x r y P o st la lc cs ka kc K) (hk:Kp S w w') (hS: ∀k,Jj x la lc cs ka kc K k-> ¬S k):Xx w' x r y P o st la lc cs ka kc K:=
 {h with
  cell:=hk.get h.cell (hS x (.inl rfl))
  row:=h.row.keep hk λg hg=>hS g (.inr (.inl hg))
  Vl:=h.Vl.keep hk λk hf=>hS k (.inr (.inr (.inl hf)))
  kept:=h.kept.keep hk λk hf=>hS k (.inr (.inr (.inr hf)))}
theorem Xx.Q5 (h:Xx w x r y P o st la lc cs ka kc K) (hk:Kp No w w'):Xx w' x r y P o st la lc cs ka kc K:=h.keep hk λ_ _ x=>x
theorem Xx.lt (h:Xx w x r y P o st la lc cs ka kc K): ∀k,Jj x la lc cs ka kc K k->k<w.heap.size:=by
 rintro k (rfl|hk|hk|hk)
 ·exact Q3 h.cell
 ·exact h.row.lt k hk
 ·exact h.Vl.lt k hk
 ·exact h.kept.lt k hk
theorem Xx.at_ (h:Xx w x r y P o st la lc cs ka kc K) {W:World} (hW:Kp No w W) (i:Nat):
  W.cell? ⟨x,i,none⟩=(Vu r y P o st (.slice la cs.length lc) (.slice ka K.length kc))[i]?:=Q0 (hW.get h.cell λx=>x) i
theorem Xx.Km (h:Xx w x r y P o st la lc cs ka kc K):(Value.slice la cs.length lc).ownBlock≠some x/\ ¬Ej cs x/\ ¬Cp ka kc K x:=by
 refine ⟨λhs=>?_,?_,?_⟩
 ·obtain ⟨cur,hc⟩:=h.row.type x hs;exact Q7 h.cell hc (by decide) rfl
 ·rintro ⟨p,hp,hs|hs|⟨z,hz,hs⟩⟩
  ·exact Q7 h.cell (h.Vl.each p hp).cell (by decide) hs
  ·obtain ⟨cur,hc⟩:=(h.Vl.each p hp).own.type x hs;exact Q7 h.cell hc (by decide) rfl
  ·obtain ⟨cur,hc⟩:=Own.type ((h.Vl.each p hp).vals z hz) x hs;exact Q7 h.cell hc (by decide) rfl
 ·rintro (hs|⟨z,hz,hs⟩)
  ·obtain ⟨cur,hc⟩:=h.kept.own.type x hs;exact Q7 h.cell hc (by decide) rfl
  ·obtain ⟨cur,hc⟩:=Own.type (h.kept.vals z hz) x hs;exact Q7 h.cell hc (by decide) rfl
theorem Xx.turn {r' y' o':Nat} {P':ByteArray} {st':J7} (h:Xx w x r y P o st la lc cs ka kc K) (hk:Kp (Mer.One x) w w') (hc:w'.heap[x]?=some (.cells (Vu r' y' P' o' st' (.slice la cs.length lc) (.slice ka K.length kc)) 64 (0,0))) (h1:st'.keys=st.keys) (h2:st'.kept=st.kept):Xx w' x r' y' P' o' st' la lc cs ka kc K:=
 ⟨hc,h.row.keep hk λg hg e=>h.Km.1 ((show g=x from e)▸hg),h.Vl.keep hk λk hf e=>h.Km.2.1 ((show k=x from e)▸hf),h.kept.keep hk λk hf e=>h.Km.2.2 ((show k=x from e)▸hf),by rw [h1];exact h.Et,by rw [h2];exact h.Gn⟩
end
structure G4 (w:World) (x r y:Nat) (P Q:ByteArray) (o:Nat) (st:J7) (la:Option Addr) (lc:Nat) (cs:Z7) (ka:Option Addr) (kc:Nat) (K:List Qa) (ds:Qu) (lg:J2) (F G:Nat->Prop):Prop where
 st:Xx w x r y P o st la lc cs ka kc K
 at_:N9 w r y Q ds lg F G
 sF: ∀i,Jj x la lc cs ka kc K i-> ¬F i
 sG: ∀i,Jj x la lc cs ka kc K i-> ¬G i
theorem G4.Q5 {w w':World} {x r y o:Nat} {P Q:ByteArray} {st:J7} {la ka:Option Addr} {lc kc:Nat} {cs:Z7} {K:List Qa} {ds:Qu} {lg:J2} {F G:Nat->Prop} (h:G4 w x r y P Q o st la lc cs ka kc K ds lg F G) (hk:Kp No w w'):G4 w' x r y P Q o st la lc cs ka kc K ds lg F G:=⟨h.st.Q5 hk,h.at_.no hk,h.sF,h.sG⟩
theorem Qiy (r y:Nat) (P:ByteArray) (o:Nat) (st:J7) (lv kv:Value):((Vu r y P o st lv kv).toList.drop 8).take 15=Nn st.of:=rfl
theorem Qiu {w:World} {s rr y o:Nat} {P:ByteArray} {st:J7} {la:Option Addr} {lc:Nat} {cs:Z7} {ka:Option Addr} {kc:Nat} {K:List Qa} (h:Xx w s rr y P o st la lc cs ka kc K) (hof:Qjf st.of)
  (a:Option Addr) (cap:Nat) (L:List Qa) (hL:V2 w a L) (_hc:L.length<=cap) (hcm:L.length<=1000000):
  Calls Tryz.prog 66 #[.pointer (some ⟨s,0,none⟩), .slice a L.length cap] w λe w'=>e= .returned (.int .i64 (Fk st (L.map Qa.r):Nat))/\Kp No w w':=by
 obtain ⟨n,U2⟩: ∃n,n=L.length:=⟨_,rfl⟩;have hsl:=Q3 h.cell;have H:=zz h;have HL:=zz hL;have HN:=zz U2;have Qnk:=zz hof;have hnn:n<=1000000:=by omega
 rw [<-U2];rcases Nat.lt_or_ge 64 n with h64|h64
 ·have d0:decide ((64:Int)<(n:Int))=true:=decide_eq_true (by omega);have d0':decide (64<n)=true:=decide_eq_true h64;have HV:=zz (Q5j (st:=st) (L:=L.map Qa.r) (by rw [List.length_map];omega));clear h hL hof U2 h64 _hc hcm;go_enter Tryz.func66,Tryz.ntmps66
  go_wp2_with fail
  go_ret
  exact ⟨by rw [HV.out];rfl,Kp.refl _ _⟩
 ·have d0:decide ((64:Int)<(n:Int))=false:=decide_eq_false (by omega);have d0':decide (64<n)=false:=decide_eq_false (by omega);have Qt2:=zz (show ¬64<(L.map Qa.r).length from by rw [List.length_map];omega);clear h hL hof U2 _hc hcm;go_enter Tryz.func66,Tryz.ntmps66
  go_wp2_with fail
  go_loopw [5] (λi wr=> ∃k:Nat,k<=n/\i= .int .i64 (k:Int)/\Hid (Kp No w wr)/\Hid (∀x∈L.take k,Jv x.r=true)) (λi _=>n-(intOf i).toNat)
  case atStart=>exact ⟨0,Nat.zero_le _,rfl,zz zK,zz λx hx=>absurd hx (by simp)⟩
  case round=>
   obtain ⟨k,hk,rfl,HK,HA⟩:=hrel;rcases Nat.lt_or_ge k n with hlt|hge
   ·have Hf:k<L.length:=by have:=HN.out;omega
    obtain ⟨g,off,rfl,hgl,hgr⟩:=Yr HL.out.1 Hf;have hst:L.take (k+1)=L.take k++[L[k]]:=List.take_succ_eq_append_getElem Hf;have hxk:(L.map Qa.r)[k]?=some L[k].r:=by rw [List.getElem?_map,List.getElem?_eq_getElem Hf];rfl
    obtain ⟨x,hx⟩: ∃x,x=L[k]:=⟨_,rfl⟩;rw [<-hx] at hgr hst hxk;have R1:=zz (hgr wr HK.out);have hg3:=HK.out.lt hgl;have HIS:=zz (Qaw x wr);have HST:=zz (And.intro hst hxk);clear hgr hst hxk hx hgl Hf;cases Q1b:Jv x.r with
    |true=>
     have Qk2:=zz Q1b;clear Q1b;go_wp2_with (refine Qe rfl 46 _ rfl g (off+k*9) rfl _ _ R1 Tryz.underlying46 rfl (by kernel_rfl) ?_)
     refine HIS.out.mono ?_;rintro e w6 ⟨rfl,k6⟩;rw [Qk2.out];have Gb:=zz (HK.out.trans_same k6)
     have Qyp:=zz (show ∀y∈L.take (k+1),Jv y.r=true from λy hy=>by
      rw [HST.out.1] at hy;rcases List.mem_append.1 hy with hy|hy
      ·exact HA.out y hy
      ·rw [List.mem_singleton] at hy;rw [hy];exact Qk2.out)
     clear k6;go_wp2_with fail
     go_roundw
     case rel=>exact ⟨k+1,hlt,by go_num,Gb,Qyp⟩
     case measure=>simp [intOf];omega
    |false=>
     have Qk2:=zz (Q5k (st:=st) Qt2.out HST.out.2 Q1b);have Qsf:=zz Q1b;clear Q1b;go_wp2_with (refine Qe rfl 46 _ rfl g (off+k*9) rfl _ _ R1 Tryz.underlying46 rfl (by kernel_rfl) ?_)
     refine HIS.out.mono ?_;rintro e w6 ⟨rfl,k6⟩;rw [Qsf.out];have Gb:=zz (HK.out.trans_same k6);clear k6;go_wp2_with fail
     go_ret
     exact ⟨by rw [Qk2.out];rfl,Gb.out⟩
   ·obtain rfl:n=k:=by omega
    have hall: ∀x∈L,Jv x.r=true:=λx hx=>by
     have:=HA.out;rw [HN.out,List.take_length] at this;exact this x hx
    have E7: ∀r∈L.map Qa.r,Jv r=true:=λr hr=>by
     obtain ⟨x,hx,rfl⟩:=List.mem_map.1 hr;exact hall x hx
    have hval:=Qhi (st:=st) Qt2.out E7
    have Qzu:=zz (show wr.rangeAt s 8 (Nn st.of) from by
     have:=Qb ((H.out.Q5 HK.out).cell) 8 15;rwa [Qiy] at this)
    have Qlh:=HK.out.lt hsl;obtain ⟨w7,hw7⟩: ∃W,W=wr.alloc (.cells (Nn st.of).toArray 62):=⟨_,rfl⟩;have k7:Kp No wr w7:=by rw [hw7];exact zK.alloc _
    have b7:w7.heap[wr.heap.size]?=some (.cells (Nn st.of).toArray 62 (0,0)):=by rw [hw7];exact heap_alloc_new wr _
    have Qpg:=zz hw7;have Q3j:=zz (HK.out.trans_same k7);have Is:=zz b7;have Qe6:=zz (And.intro hall E7);have Qeq:=zz hval;obtain ⟨q,hq⟩: ∃q,q=wr.heap.size:=⟨_,rfl⟩;rw [<-hq] at Is;have HQ:=zz (show w.heap.size<=q by rw [hq];exact HK.out.size);clear hall E7 hval hw7 k7 b7 HA hge
    go_upto_region 9 with (first
     |(refine Qe rfl 62 _ rfl s 8 rfl _ _ Qzu Tryz.underlying62 rfl (by kernel_rfl) ?_)
     |(refine Qy rfl 62 _ _ rfl wr.heap.size (by rfl) _ _ _ rfl rfl (by kernel_rfl) (by rfl) (by rfl) ?_))
    rw [<-Qpg.out,<-hq];clear hq;have Qb0:=zz (show X5 st.mm st.mc st.of (L.map Qa.r)=X5 st.mm st.mc (Ie st.of ((L.map Qa.r).take 0)) ((L.map Qa.r).drop 0) from rfl);go_wp2_with fail
    go_loopw [7] (λi wr=> ∃k:Nat,k<=n/\i= .int .i64 (k:Int)/\Hid (Kp No w wr)/\Hid (wr.heap[q]?=some (.cells (Nn (Ie st.of ((L.map Qa.r).take k))).toArray 62 (0,0)))/\Hid (X5 st.mm st.mc st.of (L.map Qa.r)=X5 st.mm st.mc (Ie st.of ((L.map Qa.r).take k)) ((L.map Qa.r).drop k))) (λi _=>n-(intOf i).toNat)
    case atStart=>exact ⟨0,Nat.zero_le _,rfl,Q3j,Is,Qb0⟩
    case round=>
     clear Qb0 Is Q3j;obtain ⟨j,hj,rfl,HK,HB,Qb0⟩:=hrel;rcases Nat.lt_or_ge j n with hlt|hge
     ·have He:j<L.length:=by have:=HN.out;omega
      obtain ⟨g,off,rfl,hgl,hgr⟩:=Yr HL.out.1 He;have hxk:(L.map Qa.r)[j]?=some L[j].r:=by rw [List.getElem?_map,List.getElem?_eq_getElem He];rfl
      have hxi:=Qe6.out.1 L[j] (List.getElem_mem He);have Q2i:=(Qnk.out.upto ((L.map Qa.r).take j) λr hr=>Qe6.out.2 r (List.mem_of_mem_take hr))
      have hst:Ie st.of ((L.map Qa.r).take (j+1))=Jx (Ie st.of ((L.map Qa.r).take j)) L[j].r:=by
       rw [List.take_succ_eq_append_getElem (by rw [List.length_map];exact He),Bz,List.getElem_map]
      have Qgn:=Qah _ j _ hxk Qb0.out;obtain ⟨x,hx⟩: ∃x,x=L[j]:=⟨_,rfl⟩;obtain ⟨OF,Qg1⟩: ∃OF,OF=Ie st.of ((L.map Qa.r).take j):=⟨_,rfl⟩;rw [<-Qg1] at Q2i hst Qgn HB;rw [<-hx] at hgr hst hxi Qgn;rw [hst] at Qgn;obtain ⟨hv,e1,e2,e3,_⟩:=Yw.1 hxi;obtain ⟨_,o1,o2,_⟩:=Zo.1 hv;obtain ⟨oN,Q1a⟩: ∃oN:Nat,x.r.o=(oN:Int):=⟨x.r.o.toNat,by omega⟩;have C7:oN<5:=by omega
      have Q4r:x.r.o.toNat=oN:=by omega
      have hrc:recC x=[.int .i64 (oN:Int), .int .i64 x.r.seq, .string x.r.key, .int .i64 x.r.v.m, .int .i64 x.r.v.c, .int .i64 x.r.v.o,x.sl, .bool x.r.v.gone, .int .i64 x.r.v.ttl]:=by unfold recC;rw [Q1a]
      rw [hrc] at hgr;have R1:=zz (hgr wr HK.out);have hg3:=HK.out.lt hgl;obtain ⟨w8,hw8⟩: ∃W,W=wr.alloc (.cells #[.int .i64 (oN:Int), .int .i64 x.r.seq, .string x.r.key, .int .i64 x.r.v.m, .int .i64 x.r.v.c, .int .i64 x.r.v.o,x.sl, .bool x.r.v.gone, .int .i64 x.r.v.ttl] 46):=⟨_,rfl⟩;have k8:Kp No wr w8:=by rw [hw8];exact zK.alloc _
      have b8:w8.heap[wr.heap.size]?=some (.cells #[.int .i64 (oN:Int), .int .i64 x.r.seq, .string x.r.key, .int .i64 x.r.v.m, .int .i64 x.r.v.c, .int .i64 x.r.v.o,x.sl, .bool x.r.v.gone, .int .i64 x.r.v.ttl] 46 (0,0)):=by rw [hw8];exact heap_alloc_new wr _
      obtain ⟨p,hpq⟩: ∃p,p=wr.heap.size:=⟨_,rfl⟩;rw [<-hpq] at b8;have Qr3:=Q3 b8;have hq8:=Q3 (k8.get HB.out λx=>x);have c0:w8.cell? ⟨p,0,none⟩=some (.int .i64 (oN:Int)):=Q0 b8 0;have Qu4:=zz hw8;have Kx:=zz (HK.out.trans_same k8);have El:=zz (And.intro b8 (k8.get HB.out λx=>x));have HST:=zz (And.intro hst (And.intro Qgn (And.intro Q2i (And.intro Q4r hxi))));have Qxv:=zz (show w.heap.size<=p from by rw [hpq];exact HK.out.size);have Qjn:=Q2i.low oN;have Qh2:0<=x.r.seq/\x.r.seq<=1099511627776:=⟨by omega,e3⟩;clear hgr hst Qgn k8 b8 hw8 hx Qg1 hgl He hxk hxi Q2i hv e1 e2 e3 o1 o2 Q1a Q4r hrc Qb0 HB
      go_upto_region 13 with (first
       |(refine Qe rfl 46 _ rfl g (off+j*9) rfl _ _ R1 Tryz.underlying46 rfl (by kernel_rfl) ?_)
       |(refine Qy rfl 46 _ _ rfl wr.heap.size (by rfl) _ _ _ rfl rfl (by kernel_rfl) (by rfl) (by rfl) ?_))
      rw [<-Qu4.out,<-hpq];clear hpq;go_upto_region 14 with fail
      obtain ⟨sq,Q2k⟩: ∃sq,sq=(Qp OF oN).seq:=⟨_,rfl⟩;obtain ⟨m0,hm0⟩: ∃m0,m0=(Qp OF oN).m:=⟨_,rfl⟩;obtain ⟨c00,Q83⟩: ∃c0,c0=(Qp OF oN).c:=⟨_,rfl⟩;have hg3':=Uc OF C7;rw [<-Q2k] at Qjn;rw [<-Q2k,<-hm0,<-Q83] at hg3';have Qkr: ∀W,Kp No w8 W->W.cell? ⟨p,1,none⟩=some (.int .i64 x.r.seq):=λW hW=>Q0 (hW.get El.out.1 λx=>x) 1
      have Qks: ∀W,Kp No w8 W->W.cell? ⟨q,oN*3,none⟩=some (.int .i64 sq):=λW hW=>by
       rw [Q0 (hW.get El.out.2 λx=>x)];simpa using hg3'.1
      have RP:=zz (show ∀W,Kp No w8 W->W.rangeAt p 3 [.int .i64 x.r.v.m, .int .i64 x.r.v.c] from λW hW=>by have:=Qb (hW.get El.out.1 λx=>x) 3 2;exact this)
      have RQ:=zz (show ∀W,Kp No w8 W->W.rangeAt q (oN*3+1) [.int .i64 m0, .int .i64 c00] from λW hW=>by
       intro jj v hj;rw [Q0 (hW.get El.out.2 λx=>x)];match jj,hj with
       |0,hj=>injection hj with hj;subst hj;simpa using hg3'.2.1
       |1,hj=>injection hj with hj;subst hj;simpa using hg3'.2.2)
      have RS:=zz (show ∀W,Kp No w8 W->W.rangeAt s 6 [.int .i64 st.mm, .int .i64 st.mc] from λW hW=>by have:=Qb ((H.out.Q5 (Kx.out.trans_same hW)).cell) 6 2;exact this);obtain ⟨s1,hs1⟩: ∃s1,s1=sq+1:=⟨_,rfl⟩;have hws:wrap64 (sq+1)=s1:=by rw [IntWalk.wrap64_in _ (by omega),hs1]
      have J24:IntKind.i64.wrap (sq+1)=s1:=(IntWalk.i64_in _ (by omega)).trans hs1.symm;have hs8:=Kx.out.lt hsl;obtain ⟨z1,hz1⟩: ∃z,z=Js x.r.v.m x.r.v.c m0 c00:=⟨_,rfl⟩;obtain ⟨z2,hz2⟩: ∃z,z=Js x.r.v.m x.r.v.c st.mm st.mc:=⟨_,rfl⟩;have hcm1:=λW=>Eb x.r.v.m x.r.v.c m0 c00 W;have hcm2:=λW=>Eb x.r.v.m x.r.v.c st.mm st.mc W;rw [<-hz1] at hcm1;rw [<-hz2] at hcm2;have HCM:=zz (And.intro hcm1 hcm2)
      have hstep:F7 st.mm st.mc OF x.r=(decide (x.r.seq=s1)&&(decide (0<z1)&&decide (0<z2))):=by
       rw [Al,HST.out.2.2.2.1,<-Q2k,<-hs1,<-hm0,<-Q83];congr 1
       congr 1
       ·rw [Bool.eq_iff_iff,decide_eq_true_iff,hz1,(Xi _ _ _ _).2.2]
       ·rw [Bool.eq_iff_iff,decide_eq_true_iff,hz2,(Xi _ _ _ _).2.2]
      have Kn:=zz hstep
      have Qeg:=zz (show F7 st.mm st.mc OF x.r=false->Fk st (L.map Qa.r)=12 from λhf=>by
       rw [Qeq.out,HST.out.2.1,hf];rfl)
      clear Q2k hm0 Q83 hg3' hs1 hz1 hz2 hcm1 hcm2 hstep c0 Qh2;by_cases q1:x.r.seq=s1
      ·have e1:(x.r.seq==s1)=true:=by rw [beq_iff_eq];exact q1
       have e2:(x.r.seq !=s1)=false:=by rw [bne,e1];rfl
       have Qja:=zz q1;clear q1;rcases Int.lt_or_le 0 z1 with q2|q2
       ·have e3:decide (z1<=0)=false:=decide_eq_false (by omega);have Qsd:=zz q2;clear q2;rcases Int.lt_or_le 0 z2 with q3|q3
        ·have e4:decide (z2<=0)=false:=decide_eq_false (by omega);have Qzf:=zz q3;clear q3;refine zD No [0,0,0,0,0,0,0,0,0,0,0,0,0,0,0,0,2,0,0,0,0,0,0,0,0,0,0,2,0,0] [0,1,2,3,4,5,6,7,8,9,10,11,12,13,14,15,16,17,18,19,20,21,22,23,24,25,26,27,28,29] ?_;repeat (first|refine zA ?_|refine zB ?_|refine zC ?_)
         apply Q8 rfl rfl rfl
         ·intro W hW;exact Q9 25 _ rfl p 3 rfl [.int .i64 x.r.v.m, .int .i64 x.r.v.c] _ (RP.out W hW) Tryz.underlying25 rfl (by kernel_rfl)
         ·(focus (go_simp;rfl))
         repeat (first|refine zA ?_|refine zB ?_|refine zC ?_)
         apply Q8 rfl rfl rfl
         ·intro W hW;exact Q9 25 _ rfl q (oN*3+1) rfl [.int .i64 m0, .int .i64 c00] _ (RQ.out W hW) Tryz.underlying25 rfl (by kernel_rfl)
         ·(focus (go_simp;rfl))
         refine Q4 rfl rfl (λn1=>?_);go_wp2_with fail
         refine (HCM.out.1 _).mono ?_;rintro e wa ⟨rfl,Gl⟩;have ka:Kp No w8 wa:=Gl.of_drewN;clear Gl;go_wp2_with fail
         (try refine ⟨ka,?_⟩)
         repeat (first|refine zA ?_|refine zB ?_|refine zC ?_)
         apply Q8 rfl rfl rfl
         ·intro W hW;exact Q9 25 _ rfl p 3 rfl [.int .i64 x.r.v.m, .int .i64 x.r.v.c] _ (RP.out W hW) Tryz.underlying25 rfl (by kernel_rfl)
         ·(focus (go_simp;rfl))
         repeat (first|refine zA ?_|refine zB ?_|refine zC ?_)
         apply Q8 rfl rfl rfl
         ·intro W hW;exact Q9 25 _ rfl s 6 rfl [.int .i64 st.mm, .int .i64 st.mc] _ (RS.out W hW) Tryz.underlying25 rfl (by kernel_rfl)
         ·(focus (go_simp;rfl))
         refine Q4 rfl rfl (λn2=>?_);go_wp2_with fail
         refine (HCM.out.2 _).mono ?_;rintro e wb ⟨rfl,Qh9⟩;have kb:Kp No w8 wb:=ka.trans_same Qh9.of_drewN;clear Qh9 ka;go_wp2_with fail
         (try refine ⟨kb,?_⟩)
         repeat (first|refine zA ?_|refine zB ?_|refine zC ?_)
         refine Q6 (λnq=>?_);obtain ⟨wd,hwd⟩: ∃W,W=wb.drewN nq:=⟨_,rfl⟩;have kd:Kp No w8 wd:=by rw [hwd];exact kb.drewN nq
         have bp:=kd.get El.out.1 λx=>x;have bq:=kd.get El.out.2 λx=>x;have Qwo:p≠q:=Q7 bp bq (by decide);have Qe7:=zz (And.intro bp (And.intro bq Qwo));have c1: ∀W,Kp (Mer.One q) wd W->W.cell? ⟨p,1,none⟩=some (.int .i64 x.r.seq):=λW hW=>Q0 (hW.get Qe7.out.1 λe=>Qe7.out.2.2 e) 1;have R3:=zz (show ∀W,Kp (Mer.One q) wd W->W.rangeAt p 3 [.int .i64 x.r.v.m, .int .i64 x.r.v.c] from λW hW=>by have:=Qb (hW.get Qe7.out.1 λe=>Qe7.out.2.2 e) 3 2;exact this);have Qye:=Q3 bp;have J8y:=Q3 bq;have Lq:=zz (Kx.out.trans_same kd);rw [<-hwd];have hT:=HST.out.2.2.2.1;have hset:=Q2z OF HST.out.2.2.1.five C7 ⟨x.r.seq,x.r.v.m,x.r.v.c⟩;have hnew:Jx OF x.r=OF.set oN ⟨x.r.seq,x.r.v.m,x.r.v.c⟩:=by unfold Jx;rw [hT]
         have Yz:=zz (show Nn (Ie st.of ((L.map Qa.r).take (j+1)))=(((Nn OF).set (oN*3) (.int .i64 x.r.seq)).set (oN*3+1) (.int .i64 x.r.v.m)).set (oN*3+2) (.int .i64 x.r.v.c) from by rw [HST.out.1,hnew,<-hset])
         have Qp5:=zz (show X5 st.mm st.mc st.of (L.map Qa.r)=X5 st.mm st.mc (Ie st.of ((L.map Qa.r).take (j+1))) ((L.map Qa.r).drop (j+1)) from by
          rw [HST.out.2.1,Kn.out,decide_eq_true Qja.out,decide_eq_true Qsd.out,decide_eq_true Qzf.out,HST.out.1];rfl)
         have g3:=Uc OF C7;have Qni:=zz g3;clear hwd kb kd bp bq Qkr Qks hT hset hnew g3 Qwo;go_upto_region 16 with fail
         refine zD (Mer.One q) [0,0,0,0,0,0,0,0,0,2,0,0,2] [0,1,2,3,4,5,6,7,8,9,10,11,12] ?_;repeat (first|refine zA ?_|refine zB ?_|refine zC ?_)
         apply Q8 rfl rfl rfl
         ·intro W hW;exact Q9 25 _ rfl p 3 rfl [.int .i64 x.r.v.m, .int .i64 x.r.v.c] _ (R3.out W hW) Tryz.underlying25 rfl (by kernel_rfl)
         ·(focus (go_simp;rfl))
         repeat (first|refine zA ?_|refine zB ?_|refine zC ?_)
         refine Q4 rfl rfl (λn3=>?_);obtain ⟨we,hwe⟩: ∃W,W=wd.drewN n3:=⟨_,rfl⟩;have ke:Kp No wd we:=by rw [hwe];exact (Kp.refl No wd).drewN n3
         have Quk:=ke.get Qe7.out.2.1 λx=>x;have g0:we.cell? ⟨q,oN*3,none⟩=some (.int .i64 (Qp OF oN).seq):=by rw [Q0 Quk];simpa using Qni.out.1
         have f0:=Qc Quk (oN*3);have hqe:=Q3 Quk;have Qyq:=zz Quk;have Q3k:=zz ke;rw [<-hwe];clear hwe Quk ke;go_wp2_with fail
         obtain ⟨wf,hwf⟩: ∃W,W=we.setCell ⟨q,oN*3,none⟩ (.int .i64 x.r.seq):=⟨_,rfl⟩;have Qzx:=Qh Qyq.out (oN*3) (.int .i64 x.r.seq);rw [<-hwf] at Qzx⊢;have kf:Kp (Mer.One q) wd wf:=by rw [hwf];exact (Kp.of_no Q3k.out).setCell (p:=⟨q,oN*3,none⟩) (.inl (show Mer.One q q from rfl)) _
         have J6f:=zz Qzx;have Qj7:=zz kf;clear g0 f0 hqe hwf Qzx;refine ⟨kf,?_⟩;clear kf;repeat (first|refine zA ?_|refine zB ?_|refine zC ?_)
         refine Q4 rfl rfl (λn4=>?_);obtain ⟨wg,hwg⟩: ∃W,W=wf.drewN n4:=⟨_,rfl⟩;have kg:Kp No wf wg:=by rw [hwg];exact (Kp.refl No wf).drewN n4
         have Qpn:=kg.get J6f.out λx=>x
         have g1:wg.cell? ⟨q,oN*3+1,none⟩=some (.int .i64 (Qp OF oN).m):=by
          rw [Q0 Qpn];have:=Qni.out.2.1;simpa [List.getElem?_set] using this
         have g2:wg.cell? ⟨q,oN*3+2,none⟩=some (.int .i64 (Qp OF oN).c):=by
          rw [Q0 Qpn];have:=Qni.out.2.2;simpa [List.getElem?_set] using this
         have f1:=Qc Qpn (oN*3+1);have f2:=Qc Qpn (oN*3+2);have hqg:=Q3 Qpn;have J6g:=zz Qpn;have Qs8:=zz (Qj7.out.trans_no kg);rw [<-hwg];clear hwg Qpn kg;go_wp2_with fail
         obtain ⟨wh,hwh⟩: ∃W,W=(wg.setCell ⟨q,oN*3+1,none⟩ (.int .i64 x.r.v.m)).setCell ⟨q,oN*3+2,none⟩ (.int .i64 x.r.v.c):=⟨_,rfl⟩;have Qzy:=Qh (Qh J6g.out (oN*3+1) (.int .i64 x.r.v.m)) (oN*3+2) (.int .i64 x.r.v.c);rw [<-hwh] at Qzy⊢;have kh:Kp (Mer.One q) wd wh:=by rw [hwh];exact (Qs8.out.setCell (p:=⟨q,oN*3+1,none⟩) (.inl (show Mer.One q q from rfl)) _).setCell (p:=⟨q,oN*3+2,none⟩) (.inl (show Mer.One q q from rfl)) _
         have J6h:=zz Qzy;have Qp1:=zz kh;clear g1 g2 f1 f2 hqg hwh Qzy;refine ⟨kh,?_⟩;clear kh;refine Q6 (λnq=>?_);obtain ⟨wi,hwi⟩: ∃W,W=wh.drewN nq:=⟨_,rfl⟩;have ki:Kp No wh wi:=by rw [hwi];exact (Kp.refl No wh).drewN nq
         have J6i:=zz (show wi.heap[q]?=some (.cells (Nn (Ie st.of ((L.map Qa.r).take (j+1)))).toArray 62 (0,0)) from by
          rw [ki.get J6h.out λx=>x,Yz.out];simp)
         have J6x:=zz (show Kp No w wi from Lq.out.trans (Qp1.out.trans_no ki) λi hi e=>by
          have h1:=HQ.out;have e:i=q:=e;omega)
         rw [<-hwi];clear hwi ki c1;go_wp2_with fail
         go_roundw
         case rel=>exact ⟨j+1,hlt,by go_num,J6x,J6i,Qp5⟩
         case measure=>simp [intOf];omega
        ·have e4:decide (z2<=0)=true:=decide_eq_true q3;have HF:=zz (Qeg.out (by rw [Kn.out,decide_eq_false (show ¬0<z2 by omega)];simp));clear q3;refine zD No [0,0,0,0,0,0,0,0,0,0,0,0,0,0,0,0,2,0,0,0,0,0,0,0,0,0,0,2,0,0] [0,1,2,3,4,5,6,7,8,9,10,11,12,13,14,15,16,17,18,19,20,21,22,23,24,25,26,27,28,29] ?_;repeat (first|refine zA ?_|refine zB ?_|refine zC ?_)
         apply Q8 rfl rfl rfl
         ·intro W hW;exact Q9 25 _ rfl p 3 rfl [.int .i64 x.r.v.m, .int .i64 x.r.v.c] _ (RP.out W hW) Tryz.underlying25 rfl (by kernel_rfl)
         ·(focus (go_simp;rfl))
         repeat (first|refine zA ?_|refine zB ?_|refine zC ?_)
         apply Q8 rfl rfl rfl
         ·intro W hW;exact Q9 25 _ rfl q (oN*3+1) rfl [.int .i64 m0, .int .i64 c00] _ (RQ.out W hW) Tryz.underlying25 rfl (by kernel_rfl)
         ·(focus (go_simp;rfl))
         refine Q4 rfl rfl (λn1=>?_);go_wp2_with fail
         refine (HCM.out.1 _).mono ?_;rintro e wa ⟨rfl,Gl⟩;have ka:Kp No w8 wa:=Gl.of_drewN;clear Gl;go_wp2_with fail
         (try refine ⟨ka,?_⟩)
         repeat (first|refine zA ?_|refine zB ?_|refine zC ?_)
         apply Q8 rfl rfl rfl
         ·intro W hW;exact Q9 25 _ rfl p 3 rfl [.int .i64 x.r.v.m, .int .i64 x.r.v.c] _ (RP.out W hW) Tryz.underlying25 rfl (by kernel_rfl)
         ·(focus (go_simp;rfl))
         repeat (first|refine zA ?_|refine zB ?_|refine zC ?_)
         apply Q8 rfl rfl rfl
         ·intro W hW;exact Q9 25 _ rfl s 6 rfl [.int .i64 st.mm, .int .i64 st.mc] _ (RS.out W hW) Tryz.underlying25 rfl (by kernel_rfl)
         ·(focus (go_simp;rfl))
         refine Q4 rfl rfl (λn2=>?_);go_wp2_with fail
         refine (HCM.out.2 _).mono ?_;rintro e wb ⟨rfl,Qh9⟩;have kb:Kp No w8 wb:=ka.trans_same Qh9.of_drewN;clear Qh9 ka;go_wp2_with fail
         (try refine ⟨kb,?_⟩)
         repeat (first|refine zA ?_|refine zB ?_|refine zC ?_)
         refine Q6 (λnq=>?_);have Lq:=zz ((Kx.out.trans_same kb).drewN nq);clear kb Qkr Qks;go_wp2_with fail
         go_ret
         exact ⟨by rw [HF.out];rfl,Lq.out⟩
       ·have e3:decide (z1<=0)=true:=decide_eq_true q2;have HF:=zz (Qeg.out (by rw [Kn.out,decide_eq_false (show ¬0<z1 by omega)];simp));clear q2;refine zD No [0,0,0,0,0,0,0,0,0,0,0,0,0,0,0,0,2,0,0,0,0,0,0,0,0,0,0,2,0,0] [0,1,2,3,4,5,6,7,8,9,10,11,12,13,14,15,16,17,18,19,20,21,22,23,24,25,26,27,28,29] ?_;repeat (first|refine zA ?_|refine zB ?_|refine zC ?_)
        apply Q8 rfl rfl rfl
        ·intro W hW;exact Q9 25 _ rfl p 3 rfl [.int .i64 x.r.v.m, .int .i64 x.r.v.c] _ (RP.out W hW) Tryz.underlying25 rfl (by kernel_rfl)
        ·(focus (go_simp;rfl))
        repeat (first|refine zA ?_|refine zB ?_|refine zC ?_)
        apply Q8 rfl rfl rfl
        ·intro W hW;exact Q9 25 _ rfl q (oN*3+1) rfl [.int .i64 m0, .int .i64 c00] _ (RQ.out W hW) Tryz.underlying25 rfl (by kernel_rfl)
        ·(focus (go_simp;rfl))
        refine Q4 rfl rfl (λn1=>?_);go_wp2_with fail
        refine (HCM.out.1 _).mono ?_;rintro e wa ⟨rfl,Gl⟩;have ka:Kp No w8 wa:=Gl.of_drewN;clear Gl;go_wp2_with fail
        (try refine ⟨ka,?_⟩)
        repeat (first|refine zA ?_|refine zB ?_|refine zC ?_)
        refine Z3 rfl rfl (by rfl) rfl (λn2=>⟨ka.drewN n2,?_⟩);repeat (first|refine zA ?_|refine zB ?_|refine zC ?_)
        refine Q6 (λnq=>?_);have Lq:=zz (((Kx.out.trans_same ka).drewN n2).drewN nq);clear ka Qkr Qks;go_wp2_with fail
        go_ret
        exact ⟨by rw [HF.out];rfl,Lq.out⟩
      ·have e1:(x.r.seq==s1)=false:=by rw [beq_eq_false_iff_ne];exact q1
       have e2:(x.r.seq !=s1)=true:=by rw [bne,e1];rfl
       have HF:=zz (Qeg.out (by rw [Kn.out,decide_eq_false q1];rfl));clear q1;refine zD No [0,0,0,0,0,0,0,0,0,0,0,0,0,0,0,0,2,0,0,0,0,0,0,0,0,0,0,2,0,0] [0,1,2,3,4,5,6,7,8,9,10,11,12,13,14,15,16,17,18,19,20,21,22,23,24,25,26,27,28,29] ?_;repeat (first|refine zA ?_|refine zB ?_|refine zC ?_)
       refine Z3 rfl rfl (by rfl) rfl (λn1=>⟨zK.drewN n1,?_⟩);repeat (first|refine zA ?_|refine zB ?_|refine zC ?_)
       refine Z3 rfl rfl (by rfl) rfl (λn2=>⟨((Kp.refl No _).drewN n1).drewN n2,?_⟩);repeat (first|refine zA ?_|refine zB ?_|refine zC ?_)
       refine Q6 (λnq=>?_);have Lq:=zz (((Kx.out.drewN n1).drewN n2).drewN nq);clear Qkr Qks;go_wp2_with fail
       go_ret
       exact ⟨by rw [HF.out];rfl,Lq.out⟩
     ·have hjn:j=n:=by omega
      have HF:=zz (show Fk st (L.map Qa.r)=0 from by
       rw [Qeq.out,Qb0.out,hjn,HN.out,List.drop_of_length_le (by rw [List.length_map];exact Nat.le_refl _)];rfl)
      clear hjn;go_wp2_with fail
      go_ret
      exact ⟨by rw [HF.out];rfl,HK.out⟩
end Go.Proofs.YtgnkmjeoaoongaaGreatDoor
