/-
  SAll, SOpen, RCut, SIter, SStM, SRead.
-/
import Derived.Test.YtgnkmjeoaoongaaGreatDoorXc6
set_option maxRecDepth 100000
set_option maxHeartbeats 1000000
namespace Go.Proofs.YtgnkmjeoaoongaaGreatDoor
open Go.RowKit Go.Mer
def Qxh (m c:Int):List UInt8:=Ql m.toNat++Ql c.toNat
def Qrp (l:List Qx):List UInt8:=Ql 1++Eu l
def Bu (m c:Int):List UInt8:=Ql 2++Qxh m c
def Zp (P:ByteArray) (a:Nat):ByteArray:=⟨(P.data.toList++(Lib.decDigits a++[46])).toArray⟩
def Jw (P:ByteArray) (s:Qu) (lg:J2) (p:List UInt8):Int×Qu×J2:=
 if (Y8 P s lg p).1.2=0 then Uq P (Y8 P s lg p).2.1 (Y8 P s lg p).2.2 else ((Y8 P s lg p).1.2,(Y8 P s lg p).2.1,(Y8 P s lg p).2.2)
def Jd (P:ByteArray) (o:Nat) (s:Qu) (st:J7) (lg:J2) (l:List Qx):Int×Qu×J7×J2:=
 if st.dead=true then (9,s,st,lg)
 else if l.length=0 then (0,s,st,lg)
 else if Fk st l=0 then
  let w:=Jw (Zp P st.Xu) s lg (Qrp l)
  if w.1=0 then (0,w.2.1,{Jf o st l with n:=st.n+1},w.2.2) else (w.1,w.2.1,{st with dead:=true},w.2.2)
 else ((Fk st l:Int),s,st,lg)
def J9 (P:ByteArray) (s:Qu) (st:J7) (lg:J2) (m c:Int):(Nat×Int)×Qu×J7×J2:=
 if st.dead=true then ((0,9),s,st,lg)
 else if Jp m c=false then ((0,1),s,st,lg)
 else if Z6 st.mm st.mc m c=true then
  let w:=Jw (Zp P st.Xu) s lg (Bu m c)
  if w.1=0 then ((Fb st m c,0),w.2.1,{Fc st m c with n:=st.n+1},w.2.2) else ((0,w.1),w.2.1,{st with dead:=true},w.2.2)
 else ((0,0),s,st,lg)
def Ha (st:J7) (k:ByteArray) (m c:Int):Option (List UInt8)×Int:=
 if Z6 m c st.mm st.mc=true then (none,19) else (U1 (Qi st.keys k) m c,0)
def Zy (st:J7):Nat:=(st.keys.map λp=>p.2.length).sum
theorem C9 {o:Nat} {st:J7} (h:Inv o st) (a n:Nat) (d:Bool):Inv o {st with Xu:=a,n:=n,dead:=d}:=⟨h.own,h.Qlz,h.done,h.mark,h.sorted,h.keys,h.kept⟩
end Go.Proofs.YtgnkmjeoaoongaaGreatDoor
namespace Go.Mer
open Go Go.RowKit
open Go.ChangeMaps (setBlock)
open Go.MapKept
section
variable {K:Type} [DecidableEq K] {P:Program} {kv:K->Value} {w:World} {m r:Nat} {l:List (K×Value)} {V:List K} {t kt et:TypeId} {d:TypeDesc}
theorem run_delete_i {ty:TypeId} (ht:P.underlying t=some (.map kt et)) (hk:P.underlying kt=some d) (hkv: ∀k,MapKept.IsKey d (kv k)) (hinj: ∀a b,kv a=kv b->a=b)
  (h:Xv kv w r m l V) (k:K):
  ∃o,(Builtin.delete_ #[t,kt] ty #[.map (some m),kv k]).run P w= .ok (.tuple #[]) (setBlock w m o)/\ ∀w',w'.heap[m]?=some o->w'.heap[r]?=w.heap[r]?->Xv kv w' r m (X3 l k) V:=by
 have hnd:=h.map.nodup;obtain ⟨es,clock,since,seen,c0,hr,hm,hs,hp,hold,hsc,hsk,hV⟩:=h;rcases Q28 hkv hinj hp k with ⟨h1,h2,h3⟩|⟨j,e,h1,h2,h3,h4⟩
 ·refine ⟨.map es clock,?_,λw' hw' hr'=>⟨es,clock,since,seen,c0,hr'.trans hr,hw',hs,?_,hold,hsc,hsk,?_⟩⟩
  ·simp [Builtin.delete_,run_underlying ht,MapKept.run_getObj_map hm,run_checkKey hk (hkv k),run_findKey hk h1,MapKept.run_setObj_map _ hm,Result.andThen,setBlock]
  ·rw [Q15 h2,hp]
  ·rw [Q15 h2];exact hV
 ·have hjl:=(List.getElem?_eq_some_iff.1 h2).1
  have hes:(es.eraseIdxIfInBounds j).toList=es.toList.eraseIdx j:=by
   unfold Array.eraseIdxIfInBounds;rw [dif_pos (by simpa using hjl),Array.toList_eraseIdx]
  refine ⟨.map (es.eraseIdxIfInBounds j) clock,?_,λw' hw' hr'=>⟨_,_,since,seen,c0,hr'.trans hr,hw',stamped_erase hs j,?_,?_,hsc,hsk,?_⟩⟩
  ·simp [Builtin.delete_,run_underlying ht,MapKept.run_getObj_map hm,run_checkKey hk (hkv k),run_findKey hk h1,MapKept.run_setObj_map _ hm,Result.andThen,setBlock]
  ·rw [B5 hnd h4,hes,ChangeMaps.map_eraseIdx,ChangeMaps.map_eraseIdx,hp]
  ·intro x hx;rw [hes] at hx;exact hold x (List.mem_of_mem_eraseIdx hx)
  ·intro i e' p' hi hpi;rw [hes,List.getElem?_eraseIdx] at hi;rw [B5 hnd h4,List.getElem?_eraseIdx] at hpi;by_cases hij:i<j
   ·rw [if_pos hij] at hi hpi;exact hV i e' p' hi hpi
   ·rw [if_neg hij] at hi hpi;exact hV (i+1) e' p' hi hpi
end
end Go.Mer
namespace Go.Proofs.YtgnkmjeoaoongaaGreatDoor
open Go.RowKit Go.Mer
def Xg (b:Nat):Value:= .pointer (some ⟨b,0,none⟩)
def Fq (d l:Nat) (P:ByteArray) (o:Nat) (st:J7) (m:Nat) (kv:Value):Array Value:=
 #[Xg d,Xg l, .string P, .int .i64 (o:Int), .int .i64 (st.Xu:Int), .int .i64 (st.n:Int), .bool st.dead, .map (some m), .int .i64 st.mm, .int .i64 st.mc,
  .int .i64 (Qp st.of 0).seq, .int .i64 (Qp st.of 0).m, .int .i64 (Qp st.of 0).c, .int .i64 (Qp st.of 1).seq, .int .i64 (Qp st.of 1).m, .int .i64 (Qp st.of 1).c,
  .int .i64 (Qp st.of 2).seq, .int .i64 (Qp st.of 2).m, .int .i64 (Qp st.of 2).c, .int .i64 (Qp st.of 3).seq, .int .i64 (Qp st.of 3).m, .int .i64 (Qp st.of 3).c,
  .int .i64 (Qp st.of 4).seq, .int .i64 (Qp st.of 4).m, .int .i64 (Qp st.of 4).c,kv]
abbrev Z7:=List (ByteArray×Ja)
def Y3 (cs:Z7):List (ByteArray×Value):=cs.map λp=>(p.1,Xg p.2.b)
def J3 (cs:Z7):List (ByteArray×List Qf):=cs.map λp=>(p.1,p.2.vs)
structure Xn (t:TypeId) (w:World) (cs:Z7):Prop where
 each: ∀p∈cs,Y7 t w p.2
 C0:(cs.map (·.2.b)).Nodup
 rows:(cs.filterMap (·.2.row.ownBlock)).Nodup
 keys:(cs.map (·.1)).Nodup
structure Co (w:World) (ka:Option Addr) (kc:Nat) (K:List Qa):Prop where
 own:Own w 46 9 (.slice ka K.length kc) K.length (K.flatMap recC)
 vals: ∀x∈K,x.ok w
structure Yt (w:World) (s d l:Nat) (P:ByteArray) (o:Nat) (st:J7) (m:Nat) (cs:Z7) (ka:Option Addr) (kc:Nat) (K:List Qa):Prop where
 cell:w.heap[s]?=some (.cells (Fq d l P o st m (.slice ka K.length kc)) 133 (0,0))
 map:Vi Value.string w m (Y3 cs)
 Vl:Xn 203 w cs
 kept:Co w ka kc K
 perm:(J3 cs).Perm st.keys
 Gn:st.kept=K.map Qa.r
def Ej (cs:Z7):Nat->Prop:=λk=> ∃p∈cs,Qdo p.2 k
def Cp (ka:Option Addr) (kc:Nat) (K:List Qa):Nat->Prop:=λk=>(Value.slice ka K.length kc).ownBlock=some k\/ ∃x∈K,x.sl.ownBlock=some k
def X6 (s m:Nat) (cs:Z7) (ka:Option Addr) (kc:Nat) (K:List Qa):Nat->Prop:=λk=>k=s\/k=m\/Ej cs k\/Cp ka kc K k
section
variable {t:TypeId} {w w':World} {cs:Z7} {ka:Option Addr} {kc:Nat} {K:List Qa} {s d l o m:Nat} {P:ByteArray} {st:J7}
theorem Xn.keep {S:Nat->Prop} (h:Xn t w cs) (hk:Kp S w w') (hS: ∀k,Ej cs k-> ¬S k):Xn t w' cs:=
 {h with each:=λp hp=>(h.each p hp).keep hk λk hf=>hS k ⟨p,hp,hf⟩}
theorem Co.keep {S:Nat->Prop} (h:Co w ka kc K) (hk:Kp S w w') (hS: ∀k,Cp ka kc K k-> ¬S k):Co w' ka kc K:=
 ⟨h.own.keep hk λg hg=>hS g (.inl hg),λx hx=>Qd.ok.keep (h.vals x hx) hk λg hg=>hS g (.inr ⟨x,hx,hg⟩)⟩
theorem Yt.keep {S:Nat->Prop} (h:Yt w s d l P o st m cs ka kc K) (hk:Kp S w w') (hS: ∀k,X6 s m cs ka kc K k-> ¬S k):Yt w' s d l P o st m cs ka kc K:=
 {h with
  cell:=hk.get h.cell (hS s (.inl rfl))
  map:=h.map.of_heap (hk.block m h.map.lt (hS m (.inr (.inl rfl))))
  Vl:=h.Vl.keep hk λk hf=>hS k (.inr (.inr (.inl hf)))
  kept:=h.kept.keep hk λk hf=>hS k (.inr (.inr (.inr hf)))}
theorem Yt.Q5 (h:Yt w s d l P o st m cs ka kc K) (hk:Kp No w w'):Yt w' s d l P o st m cs ka kc K:=h.keep hk λ_ _ x=>x
theorem Xn.lt (h:Xn t w cs): ∀k,Ej cs k->k<w.heap.size:=by
 rintro k ⟨p,hp,hf⟩;exact (h.each p hp).lt k hf
theorem Co.lt (h:Co w ka kc K): ∀k,Cp ka kc K k->k<w.heap.size:=by
 rintro k (hk|⟨x,hx,hk⟩)
 ·exact h.own.lt k hk
 ·exact Own.lt (h.vals x hx) k hk
theorem Yt.lt (h:Yt w s d l P o st m cs ka kc K): ∀k,X6 s m cs ka kc K k->k<w.heap.size:=by
 rintro k (rfl|rfl|hk|hk)
 ·exact Q3 h.cell
 ·exact h.map.lt
 ·exact h.Vl.lt k hk
 ·exact h.kept.lt k hk
theorem Ib (cs:Z7):(Y3 cs).map (·.1)=cs.map (·.1):=Gp (λc:Ja=>Xg c.b) cs
theorem Za (cs:Z7):(J3 cs).map (·.1)=cs.map (·.1):=Gp Ja.vs cs
theorem Yt.Af (h:Yt w s d l P o st m cs ka kc K):s≠m:=by
 obtain ⟨es,c,hm,_⟩:=h.map;exact Zc h.cell hm
theorem Yt.G0 (h:Yt w s d l P o st m cs ka kc K): ¬Ej cs s/\ ¬Cp ka kc K s:=by
 refine ⟨?_,?_⟩
 ·rintro ⟨p,hp,hs|hs|⟨x,hx,hs⟩⟩
  ·exact Q7 h.cell (h.Vl.each p hp).cell (by decide) hs
  ·obtain ⟨cur,hc⟩:=(h.Vl.each p hp).own.type s hs;exact Q7 h.cell hc (by decide) rfl
  ·obtain ⟨cur,hc⟩:=Own.type ((h.Vl.each p hp).vals x hx) s hs;exact Q7 h.cell hc (by decide) rfl
 ·rintro (hs|⟨x,hx,hs⟩)
  ·obtain ⟨cur,hc⟩:=h.kept.own.type s hs;exact Q7 h.cell hc (by decide) rfl
  ·obtain ⟨cur,hc⟩:=Own.type (h.kept.vals x hx) s hs;exact Q7 h.cell hc (by decide) rfl
theorem Yt.turn {d' l' o':Nat} {P':ByteArray} {st':J7} (h:Yt w s d l P o st m cs ka kc K) (hk:Kp (Mer.One s) w w') (hc:w'.heap[s]?=some (.cells (Fq d' l' P' o' st' m (.slice ka K.length kc)) 133 (0,0))) (h1:st'.keys=st.keys) (h2:st'.kept=st.kept):Yt w' s d' l' P' o' st' m cs ka kc K:=
 ⟨hc,h.map.of_heap (hk.block m h.map.lt λe=>h.Af (show m=s from e).symm),h.Vl.keep hk λk hf e=>h.G0.1 ((show k=s from e)▸hf),h.kept.keep hk λk hf e=>h.G0.2 ((show k=s from e)▸hf),by rw [h1];exact h.perm,by rw [h2];exact h.Gn⟩
end
theorem Yt.at_ {w:World} {s d l o m:Nat} {P:ByteArray} {st:J7} {cs:Z7} {ka:Option Addr} {kc:Nat} {K:List Qa} (h:Yt w s d l P o st m cs ka kc K) {W:World} (hW:Kp No w W) (i:Nat):
  W.cell? ⟨s,i,none⟩=(Fq d l P o st m (.slice ka K.length kc))[i]?:=Q0 (hW.get h.cell λx=>x) i
theorem Qhb:Tryz.prog.underlying 9=some .string:=Tryz.underlying9
theorem Qj1 (w:World):(zeroValue 134).run Tryz.prog w= .ok (.pointer none) w:=by kernel_rfl
theorem Ke {w:World} {m:Nat} {l:List (ByteArray×Value)} (h:Vi Value.string w m l) (k:ByteArray):
  (Instr.lookup 128 (.map (some m)) (.string k) false).run Tryz.prog w= .ok ((Qo l k).getD (.pointer none)) w:=
 (Mx Tryz.underlying128 kindStr An Am Qj1 h k).1
theorem V8 (cs:Z7) (k:ByteArray):Qo (Y3 cs) k=(Qo cs k).map λc=>Xg c.b:=Gh (λc:Ja=>Xg c.b) cs k
theorem Uk (cs:Z7) (k:ByteArray):Qo (J3 cs) k=(Qo cs k).map Ja.vs:=Gh Ja.vs cs k
theorem Zb {β:Type} {l l':List (ByteArray×β)} (hp:l.Perm l') (hn:(l.map (·.1)).Nodup) (k:ByteArray):Qo l k=Qo l' k:=by
 have hn':(l'.map (·.1)).Nodup:=(hp.map (·.1)).nodup_iff.1 hn;cases h:Qo l k with
 |none=>
  rw [Zw] at h;exact (Ya λhm=>h (((hp.map (·.1)).mem_iff).2 hm)).symm
 |some v=>exact (Xj hn' (hp.mem_iff.1 (Qw h))).symm
theorem Yt.chain {w:World} {s d l o m:Nat} {P:ByteArray} {st:J7} {cs:Z7} {ka:Option Addr} {kc:Nat} {K:List Qa} (h:Yt w s d l P o st m cs ka kc K) (k:ByteArray):
  Qo st.keys k=(Qo cs k).map Ja.vs:=by
 rw [<-Zb h.perm (by rw [Za];exact h.Vl.keys) k,Uk]
theorem Ou (k:Int) (w:World):Calls Tryz.prog 93 #[.bool true, .int .i64 k] w λe w'=>e= .returned (.tuple #[])/\w=w':=by
 go_enter Tryz.func93,Tryz.ntmps93
 go_wp2_with fail
 refine bodyPost_end (results_none rfl _ _ _) rfl ⟨rfl,rfl⟩
theorem Q53 (m c:Int) (w:World):Calls Tryz.prog 71 #[Xo m c] w λe w'=>e= .returned (.bool (Jp m c))/\Kp No w w':=by
 cases h:Jp m c with
 |true=>
  have H:=zz h;clear h;go_enter Tryz.func71,Tryz.ntmps71
  go_wp2_with fail
  refine (Z2 _ _ _ H.out).mono ?_;rintro e w' ⟨rfl,hk⟩;have hk':Kp No w w':=(zK.alloc _).trans_same hk;clear hk;go_wp2_with fail
  go_ret
  exact ⟨rfl,hk'⟩
 |false=>
  have H:=zz h;clear h;go_enter Tryz.func71,Tryz.ntmps71
  go_wp2_with fail
  refine (Zn _ _ _ H.out).mono ?_;rintro e w' ⟨rfl,hk⟩;have hk':Kp No w w':=(zK.alloc _).trans_same hk;clear hk;go_wp2_with fail
  go_ret
  exact ⟨rfl,hk'⟩
section
variable {w:World} {s d l o m:Nat} {P:ByteArray} {st:J7} {cs:Z7} {ka:Option Addr} {kc:Nat} {K:List Qa}
theorem Q0v (h:Yt w s d l P o st m cs ka kc K):Calls Tryz.prog 55 #[.pointer (some ⟨s,0,none⟩)] w λe w'=>e= .returned (.int .i64 (if st.dead=true then 9 else 0))/\w=w':=by
 have c6:w.cell? ⟨s,6,none⟩=some (.bool st.dead):=h.at_ zK 6;have hl:=Q3 h.cell;clear h;cases hd:st.dead with
 |true=>
  rw [hd] at c6;clear hd;go_enter Tryz.func55,Tryz.ntmps55
  go_wp2_with fail
  go_ret
  exact ⟨rfl,rfl⟩
 |false=>
  rw [hd] at c6;clear hd;go_enter Tryz.func55,Tryz.ntmps55
  go_wp2_with fail
  go_ret
  exact ⟨rfl,rfl⟩
end
theorem Qm0 {w:World} {s d l o m:Nat} {P:ByteArray} {st:J7} {cs:Z7} {ka:Option Addr} {kc:Nat} {K:List Qa} (h:Yt w s d l P o st m cs ka kc K) (t1 t2:Int):
  Calls Tryz.prog 78 #[.pointer (some ⟨s,0,none⟩),Xo t1 t2] w λe w'=>e= .returned (.int .i64 (if Z6 t1 t2 st.mm st.mc=true then 19 else 0))/\Kp No w w':=by
 obtain ⟨w1,hw1⟩: ∃W,W=w.alloc (.cells #[.int .i64 t1, .int .i64 t2] 25):=⟨_,rfl⟩;have k1:Kp No w w1:=by rw [hw1];exact zK.alloc _
 have b1:w1.heap[w.heap.size]?=some (.cells #[.int .i64 t1, .int .i64 t2] 25 (0,0)):=by rw [hw1];exact heap_alloc_new w _
 have c0: ∀W,Kp No w1 W->W.cell? ⟨w.heap.size,0,none⟩=some (.int .i64 t1):=λW hW=>Q0 (hW.get b1 λx=>x) 0;have c1: ∀W,Kp No w1 W->W.cell? ⟨w.heap.size,1,none⟩=some (.int .i64 t2):=λW hW=>Q0 (hW.get b1 λx=>x) 1;have c8: ∀W,Kp No w1 W->W.cell? ⟨s,8,none⟩=some (.int .i64 st.mm):=λW hW=>h.at_ (k1.trans_same hW) 8;have c9: ∀W,Kp No w1 W->W.cell? ⟨s,9,none⟩=some (.int .i64 st.mc):=λW hW=>h.at_ (k1.trans_same hW) 9;have hl:=k1.lt (Q3 h.cell);have hl1:=Q3 b1;have hz:=(Xi t1 t2 st.mm st.mc).2.1;have hcm:=λW=>X7 t1 t2 st.mm st.mc W;obtain ⟨z,hzz⟩: ∃z,z=Js t1 t2 st.mm st.mc:=⟨_,rfl⟩;rw [<-hzz] at hz hcm;have HCM:=zz hcm;have HZ:=zz hz;have U8:=zz k1;have HW1:=zz hw1;clear h k1 b1 hw1 hz hcm hzz;rcases Int.lt_or_le z 0 with hd|hd
 ·have e1:decide (z<0)=true:=decide_eq_true hd;have HR:=zz (show Z6 t1 t2 st.mm st.mc=true from HZ.out.1 hd);clear hd;go_enter Tryz.func78,Tryz.ntmps78
  go_upto_region 3 with fail
  rw [<-HW1.out];refine zD No [0,0,0,0,0,2,0,0] [0,1,2,3,4,5,6,7] ?_;repeat (first|refine zA ?_|refine zB ?_|refine zC ?_)
  refine Q4 rfl rfl (λq=>?_);go_wp2_with fail
  refine (HCM.out _).mono ?_;rintro e w2 ⟨rfl,k2⟩;go_wp2_with fail
  (try refine ⟨k2.of_drewN,?_⟩)
  repeat (first|refine zA ?_|refine zB ?_|refine zC ?_)
  refine Q6 (λnq=>?_);have Qz:=zz (U8.out.trans_same (k2.of_drewN.drewN nq));clear k2;go_wp2_with fail
  go_ret
  exact ⟨rfl,Qz.out⟩
 ·have e1:decide (z<0)=false:=decide_eq_false (by omega);have HR:=zz (show ¬Z6 t1 t2 st.mm st.mc=true from λhh=>by have:=HZ.out.2 hh;omega);clear hd;go_enter Tryz.func78,Tryz.ntmps78
  go_upto_region 3 with fail
  rw [<-HW1.out];refine zD No [0,0,0,0,0,2,0,0] [0,1,2,3,4,5,6,7] ?_;repeat (first|refine zA ?_|refine zB ?_|refine zC ?_)
  refine Q4 rfl rfl (λq=>?_);go_wp2_with fail
  refine (HCM.out _).mono ?_;rintro e w2 ⟨rfl,k2⟩;go_wp2_with fail
  (try refine ⟨k2.of_drewN,?_⟩)
  repeat (first|refine zA ?_|refine zB ?_|refine zC ?_)
  refine Q6 (λnq=>?_);have Qz:=zz (U8.out.trans_same (k2.of_drewN.drewN nq));clear k2;go_wp2_with fail
  go_ret
  exact ⟨rfl,Qz.out⟩
def Q9e (w:World) (q:Option (List UInt8)×Int) (e:Ending) (w':World):Prop:=
 match q.1 with
 |none=>e= .returned (.tuple #[.slice none 0 0, .bool false, .int .i64 q.2])/\Kp No w w'
 |some l=> ∃a cap,e= .returned (.tuple #[.slice a l.length cap, .bool true, .int .i64 q.2])/\Own w' 5 1 (.slice a l.length cap) l.length (u8s l)/\(∀g,(Value.slice a l.length cap).ownBlock=some g->w.heap.size<=g)/\Kp No w w'
theorem Qa1 {st:J7} {k:ByteArray} {m c:Int} (h:Z6 m c st.mm st.mc=true):Ha st k m c=(none,19):=if_pos h
theorem Qa0 {st:J7} {k:ByteArray} {m c:Int} (h: ¬Z6 m c st.mm st.mc=true):Ha st k m c=(U1 (Qi st.keys k) m c,0):=if_neg h
def Qsy (cs:Z7):Prop:= ∀p∈cs,p.2.R.length<=1000000/\ ∀v∈p.2.vs,Zx v=true
theorem Qkd (w:World) (k0:Ja) (m c:Int) (hm:m<=9223372036854775807) (hc:Y7 203 w k0) (hn:k0.R.length<=1000000) (hv: ∀v∈k0.vs,Zx v=true):
  Calls Tryz.prog 79 #[.pointer (some ⟨k0.b,0,none⟩),Xo m c] w (Qox w (U1 k0.vs m c)):=by
 rw [Mj]
 have hin: ∀v,Lw k0.vs m c=some v->Zx v=true:=λv h=>by
  obtain ⟨u,_,hu⟩:=Gd h;exact hv v (List.mem_of_getElem? hu)
 refine Q46 w (some ⟨k0.b,0,none⟩) m c (Lw k0.vs m c) hm (λW hW=>?_) hin;cases ho:Lw k0.vs m c with
 |none=>
  have hu:=λW' (hW':Kp No W W')=>Lx W' k0 m c (hc.Q5 (hW.trans_same hW')) hn;rw [Gc.1 ho] at hu;exact Q45 W _ m c hu
 |some v=>exact Qf9 W k0 m c (hc.Q5 hW) hn v ho (by have:=(Zo.1 (hin v ho)).2.2.2.1;omega)
theorem Qke (w:World) (m c:Int) (hm:m<=9223372036854775807):Calls Tryz.prog 79 #[.pointer none,Xo m c] w (Qox w none):=
 Q46 w none m c none hm (λW _=>Q45 W none m c λW' _=>Qbh W' m c) λv h=>by cases h
theorem Qi4 {w:World} {s d l o m:Nat} {P:ByteArray} {st:J7} {cs:Z7} {ka:Option Addr} {kc:Nat} {K:List Qa} (h:Yt w s d l P o st m cs ka kc K) (hf:Qsy cs) (k:ByteArray) (t1 t2:Int) (ht:t1<=9223372036854775807):
  Calls Tryz.prog 26 #[.pointer (some ⟨s,0,none⟩), .string k,Xo t1 t2] w (Q9e w (Ha st k t1 t2)):=by
 obtain ⟨w1,hw1⟩: ∃W,W=w.alloc (.cells #[.int .i64 t1, .int .i64 t2] 25):=⟨_,rfl⟩;have k1:Kp No w w1:=by rw [hw1];exact zK.alloc _
 have b1:w1.heap[w.heap.size]?=some (.cells #[.int .i64 t1, .int .i64 t2] 25 (0,0)):=by rw [hw1];exact heap_alloc_new w _
 have c0:w1.cell? ⟨w.heap.size,0,none⟩=some (.int .i64 t1):=Q0 b1 0;have c1:w1.cell? ⟨w.heap.size,1,none⟩=some (.int .i64 t2):=Q0 b1 1;have hl1:=Q3 b1;have hsl:=Q3 h.cell;have hold:=Qm0 (h.Q5 k1) t1 t2;have U8:=zz k1;have HB1:=zz b1;have HW1:=zz hw1;have H:=zz h;have HF:=zz hf;by_cases hlt:Z6 t1 t2 st.mm st.mc=true
 ·rw [if_pos hlt] at hold;have HOLD:=zz hold;rw [Qa1 hlt];clear h hf k1 b1 hw1 hold hlt;go_enter Tryz.func26,Tryz.ntmps26
  go_upto_region 1 with fail
  rw [<-HW1.out];go_wp2_with fail
  refine HOLD.out.mono ?_;rintro e w2 ⟨rfl,k2⟩;have Qz:=zz (U8.out.trans_same k2);clear k2 c0 c1 hl1;go_wp2_with fail
  exact bodyPost_ret (v:= .tuple #[.slice none 0 0, .bool false, .int .i64 19]) (by simp [results,Tryz.results26,go_sem]) rfl ⟨rfl,Qz.out⟩
 ·rw [if_neg hlt] at hold;have HOLD:=zz hold;rw [Qa0 hlt];clear h hf k1 b1 hw1 hold hlt;go_enter Tryz.func26,Tryz.ntmps26
  go_upto_region 1 with fail
  rw [<-HW1.out];go_wp2_with fail
  refine HOLD.out.mono ?_;rintro e w2 ⟨rfl,k2⟩;have Qz:=zz (U8.out.trans_same k2);have HB2:=zz (k2.get HB1.out λx=>x);have hl2:=Q3 HB2.out;have hs2:=Qz.out.lt hsl;have f7: ∀W,Kp No w2 W->W.cell? ⟨s,7,none⟩=some (.map (some m)):=λW hW=>H.out.at_ (Qz.out.trans_same hW) 7;have lk: ∀W,Kp No w2 W->(Instr.lookup 128 (.map (some m)) (.string k) false).run Tryz.prog W= .ok ((Qo (Y3 cs) k).getD (.pointer none)) W:=λW hW=>Ke (H.out.map.of_heap ((Qz.out.trans_same hW).block m H.out.map.lt λx=>x)) k;have HX:=zz (show ∀W,Kp No w2 W->W.rangeAt w.heap.size 0 [.int .i64 t1, .int .i64 t2] from λW hW=>by have:=Qb (hW.get HB2.out λx=>x) 0 2;exact this);have hch:=H.out.chain k;clear k2 c0 c1 hl1;go_upto_region 4 with fail
  cases hg:Qo cs k with
  |none=>
   rw [V8,hg] at lk;rw [hg] at hch;have HC:=zz (show U1 (Qi st.keys k) t1 t2=none from by unfold Qi;rw [hch];rfl);simp only [Option.map_none,Option.getD_none] at lk;have hcg:=λW=>Qke W t1 t2 ht;have Qt7:=zz hcg;clear hg hch hcg;refine zD No [0,0,0,0,0,0,0,2,0,0,0,0,0] [0,1,2,3,4,5,6,7,8,9,10,11,12] ?_;repeat (first|refine zA ?_|refine zB ?_|refine zC ?_)
   (try (apply Q8 rfl rfl rfl;(focus (intro W hW;go_simp;rw [lk W hW];rfl));(focus (go_simp;rfl))))
   repeat (first|refine zA ?_|refine zB ?_|refine zC ?_)
   apply Q8 rfl rfl rfl
   ·intro W hW;exact Q9 25 _ rfl w.heap.size 0 rfl [.int .i64 t1, .int .i64 t2] _ (HX.out W hW) Tryz.underlying25 rfl (by kernel_rfl)
   ·(focus (go_simp;rfl))
   refine Q4 rfl rfl (λq=>?_);go_wp2_with fail
   refine (Qt7.out _).mono ?_;rintro e w3 ⟨rfl,k3⟩;have Qh8:Kp No w2 w3:=k3.of_drewN;go_wp2_with fail
   (try refine ⟨Qh8,?_⟩)
   repeat (first|refine zA ?_|refine zB ?_|refine zC ?_)
   refine Q6 (λnq=>?_);have Zj:=zz ((Qz.out.trans_same Qh8).drewN nq);clear k3 Qh8 f7 lk;go_wp2_with fail
   rw [HC.out];exact bodyPost_ret (v:= .tuple #[.slice none 0 0, .bool false, .int .i64 0]) (by simp [results,Tryz.results26,go_sem]) rfl ⟨rfl,Zj.out⟩
  |some c=>
   rw [V8,hg] at lk;rw [hg] at hch;have hmem:=Qw hg;have hcv:Qi st.keys k=c.vs:=by unfold Qi;rw [hch];rfl
   simp only [Option.map_some,Option.getD_some,Xg] at lk;have Qt7:=zz (λW (hW:Kp No w2 W)=>Qkd W c t1 t2 ht ((H.out.Vl.each _ hmem).Q5 (Qz.out.trans_same hW)) (HF.out _ hmem).1 (HF.out _ hmem).2);obtain ⟨cb,hcb⟩: ∃cb,cb=c.b:=⟨_,rfl⟩;rw [<-hcb] at lk Qt7;obtain ⟨og,hog⟩: ∃og,og=U1 c.vs t1 t2:=⟨_,rfl⟩;rw [<-hog] at Qt7;have N7:=zz (show U1 (Qi st.keys k) t1 t2=og from by rw [hcv,hog]);clear hg hch hmem hcv hcb hog;refine zD No [0,0,0,0,0,0,0,2,0,0,0,0,0] [0,1,2,3,4,5,6,7,8,9,10,11,12] ?_;repeat (first|refine zA ?_|refine zB ?_|refine zC ?_)
   (try (apply Q8 rfl rfl rfl;(focus (intro W hW;go_simp;rw [lk W hW];rfl));(focus (go_simp;rfl))))
   repeat (first|refine zA ?_|refine zB ?_|refine zC ?_)
   apply Q8 rfl rfl rfl
   ·intro W hW;exact Q9 25 _ rfl w.heap.size 0 rfl [.int .i64 t1, .int .i64 t2] _ (HX.out W hW) Tryz.underlying25 rfl (by kernel_rfl)
   ·(focus (go_simp;rfl))
   refine Q4 rfl rfl (λq=>?_);go_wp2_with fail
   refine (Qt7.out _ ((Kp.refl No w2).drewN _)).mono ?_;cases og with
   |none=>
    rintro e w3 ⟨rfl,k3⟩;have Qh8:Kp No w2 w3:=k3.of_drewN;go_wp2_with fail
    (try refine ⟨Qh8,?_⟩)
    repeat (first|refine zA ?_|refine zB ?_|refine zC ?_)
    refine Q6 (λnq=>?_);have Zj:=zz ((Qz.out.trans_same Qh8).drewN nq);clear k3 Qh8 f7 lk;go_wp2_with fail
    rw [N7.out];exact bodyPost_ret (v:= .tuple #[.slice none 0 0, .bool false, .int .i64 0]) (by simp [results,Tryz.results26,go_sem]) rfl ⟨rfl,Zj.out⟩
   |some l0=>
    rintro e w3 ⟨a3,c3,rfl,ho3,hf3,k3⟩;have Qh8:Kp No w2 w3:=k3.of_drewN;obtain ⟨n3,hn3⟩: ∃n3,n3=l0.length:=⟨_,rfl⟩;rw [<-hn3] at ho3 hf3⊢;have HO:=zz (And.intro ho3 (And.intro (λg hg=>Nat.le_trans Qz.out.size (hf3 g hg)) hn3));clear ho3 hf3 hn3;go_wp2_with fail
    (try refine ⟨Qh8,?_⟩)
    repeat (first|refine zA ?_|refine zB ?_|refine zC ?_)
    refine Q6 (λnq=>?_);have Zj:=zz ((Qz.out.trans_same Qh8).drewN nq);clear k3 Qh8 f7 lk;go_wp2_with fail
    rw [N7.out];exact bodyPost_ret (v:= .tuple #[.slice a3 n3 c3, .bool true, .int .i64 0]) (by simp [results,Tryz.results26,go_sem]) rfl ⟨a3,c3,by rw [HO.out.2.2],by rw [<-HO.out.2.2];exact HO.out.1.drewN nq,by rw [<-HO.out.2.2];exact HO.out.2.1,Zj.out⟩
end Go.Proofs.YtgnkmjeoaoongaaGreatDoor
