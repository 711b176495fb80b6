/-
  DiskList, WScan, WRr, RRem, SWr, SWr2.
-/
import Derived.Test.YtgnkmjeoaoongaaGreatDoorIter
import Derived.Test.YtgnkmjeoaoongaaGreatDoorXc0
import Derived.Test.YtgnkmjeoaoongaaGreatDoorXb9
set_option maxRecDepth 100000
set_option maxHeartbeats 4000000
namespace Go.Proofs.YtgnkmjeoaoongaaGreatDoor
open Go.RowKit Go.Mer Go.Maps Go.Sort Go.Shelf
theorem Q8t (m:Nat):AnyZ.SortsIn Tryz.prog Tryz.sorted64_ren Fence.wide m:=
 ⟨λblk off cap ss W hH hblk hsz=>callsIn_wide.2 (AnyM.slices_Sort_string Tryz.sort118 blk off cap ss W hH hblk hsz),
  λp cap W=>callsIn_wide.2 (AnyM.slices_Sort_string_none Tryz.sort118 p cap W)⟩
theorem Qc4 (mb:Option Nat) (W:World):Calls Tryz.prog 150 #[.map mb] W λe w'=>e= .returned (.func (.func 209) #[] #[.pointer (some ⟨W.heap.size,0,none⟩)])/\w'=W.alloc (.cells #[.map mb] 159):=
 (callsIn_wide (n:=5)).1 (AnyZ.keys_in Tryz.keys150 Fence.wide 5 trivial rfl mb W)
theorem Q6b {H:Type} (b nn:Nat) (D0:DataW H) (R:Value->Option (DataW H×List MemPlace)) (w:World) (hown:w.ownsMap Tryz.prog 9 R b nn D0) (hmax:Maps.size D0<=maxLen) (hbytes:Maps.size D0*16<=140737488355328):
  Calls Tryz.prog 64 #[.func (.func 209) #[] #[.pointer (some ⟨w.heap.size,0,none⟩)]] (w.alloc (.cells #[.map (some b)] 159)) λe w'=> ∃(v:Value) (ss:List (List UInt8)),e= .returned v/\ss.Perm (strKeys D0)/\
   w'.ownsRow (w.alloc (.cells #[.map (some b)] 159)).heap.size 9 1 v ss.length ((ss.mergeSort (λx y=>decide (x<=y))).map encStr)/\(v= .slice none 0 0↔ss=[])/\Below (w.alloc (.cells #[.map (some b)] 159)).heap.size (w.alloc (.cells #[.map (some b)] 159)) w':=by
 have hbl:=hown.lt
 have hseq:SeqGives Fence.wide 2 Tryz.prog 209 #[.pointer (some ⟨w.heap.size,0,none⟩)] encStr (λss=>ss.Perm (strKeys D0)) (Maps.size D0) (w.alloc (.cells #[.map (some b)] 159)):=
  AnyZ.keys_gives (ρ:=Tryz.keys150_ren) {Tryz.keys150 with} Fence.wide _ trivial rfl (by omega) w.heap.size b nn D0 _ (by simp) (by simp) (by
   obtain ⟨es,clock,hb,Ft,hs,hD⟩:=hown;exact ⟨es,clock,(Below.heap_alloc _ _ b hbl).trans hb,Ft,hs,hD⟩)
 exact (callsIn_wide (n:=5)).1 (AnyZ.sorted_in Tryz.sorted64 Fence.wide 5 trivial trivial trivial trivial rfl (by omega) (Q8t _) (enters_of Tryz.func118 (by kernel_rfl) rfl) 209 #[.pointer (some ⟨w.heap.size,0,none⟩)] trivial (enters_of Tryz.func209 (by kernel_rfl) rfl) _ _ hmax hbytes _ hseq)
def Q8o (kv:Value×Value):Lit×DataW Unit:=match kv.1 with| .string s=>(Lit.string s.data.toList,DataW.nil)|_=>(Lit.bool false,DataW.nil)
theorem Vi.owns {w:World} {m:Nat} {l:List (ByteArray×Value)} (h:Vi Value.string w m l) (hl: ∀p∈l,p.1.size<=maxLen) (hn:l.length<=maxLen):
  ∃(D0:DataW Unit) (nn:Nat),w.ownsMap Tryz.prog 9 (λ_=>some (.nil,[])) m nn D0/\(strKeys D0).Perm (l.map (·.1.data.toList))/\Maps.size D0=l.length:=by
 obtain ⟨es,clock,hm,hs,hp⟩:=h;have hsz:es.size=l.length:=by have:=congrArg List.length hp;simpa using this
 have hkey: ∀x∈es.toList,∃p∈l,x.key= .string p.1:=λx hx=>by
  have:(x.key,x.val)∈es.toList.map λe=>(e.key,e.val):=List.mem_map.2 ⟨x,hx,rfl⟩;rw [hp] at this;obtain ⟨p,hp',he⟩:=List.mem_map.1 this;exact ⟨p,hp',(Prod.mk.inj he).1.symm⟩
 have hrd: ∀x∈es.toList,∀s:ByteArray,x.key= .string s->s.size<=maxLen->WideElems.rd (H:=Unit) Tryz.prog 9 (λ_=>some (.nil,[])) x=some (.string s.data.toList, .nil):=λx _ s hk hs=>by
  unfold WideElems.rd;rw [hk,WideMaps.keyOf_string_mk kindStr hs];rfl
 have hrg:es.toList.map (WideElems.rg (H:=Unit) Tryz.prog 9 (λ_=>some (.nil,[])))=l.map λp=>(Lit.string p.1.data.toList,DataW.nil):=by
  have h1: ∀x∈es.toList,WideElems.rg (H:=Unit) Tryz.prog 9 (λ_=>some (.nil,[])) x=Q8o (x.key,x.val):=λx hx=>by
   obtain ⟨p,hp',hk⟩:=hkey x hx;unfold WideElems.rg;rw [hrd x hx p.1 hk (hl p hp'),hk];rfl
  rw [List.map_congr_left h1,show (es.toList.map λx=>Q8o (x.key,x.val))=(es.toList.map λx=>(x.key,x.val)).map Q8o from by rw [List.map_map];rfl,hp,List.map_map];rfl
 refine ⟨.map ((es.toList.map (WideElems.rg (H:=Unit) Tryz.prog 9 (λ_=>some (.nil,[])))).foldr DataW.insert []),es.size,⟨es,clock,hm,⟨by omega,hs,λx hx=>?_⟩,Nat.le_refl _,rfl⟩,?_,?_⟩
 ·obtain ⟨p,hp',hk⟩:=hkey x hx;exact ⟨_,hrd x hx p.1 hk (hl p hp')⟩
 ·have h1:=(WideShapes.sorted_perm (l.map λp=>(Lit.string p.1.data.toList,(DataW.nil:DataW Unit)))).map λp=>strOf p.1;rw [hrg];refine h1.trans ?_;rw [List.map_map];exact List.Perm.refl _
 ·rw [hrg,Maps.size_eq,(WideShapes.sorted_perm _).length_eq,List.length_map]
def Ev (ss:List (List UInt8)):List ByteArray:=(ss.mergeSort λx y=>decide (x<=y)).map λb=>⟨b.toArray⟩
theorem Qb7 (w:World) (d:Nat) (s:Qu) (F:Nat->Prop) (hD:Zd w d s F) (hl: ∀p∈s.files,p.1.size<=maxLen):
  Calls Tryz.prog 95 #[.pointer (some ⟨d,0,none⟩)] w λe w'=> ∃(ss:List (List UInt8)) (a:Option Addr) (c:Nat),e= .returned (.slice a (Ev ss).length c)/\ss.Perm (s.files.map (·.1.data.toList))/\
   Rd w' w'.heap.size a ((Ev ss).map Value.string)/\Kp No w w':=by
 obtain ⟨m,fused,left,L,hC,hf,hs,hF,Qdu⟩:=hD;have hfew:=hC.few
 obtain ⟨D0,nn,hown,hperm,hsize⟩:=Vi.owns hC.map (λp hp=>by
  obtain ⟨q,hq,rfl⟩:=List.mem_map.1 hp;exact hl (q.1,q.2.abs) (by rw [hs];exact List.mem_map.2 ⟨q,hq,rfl⟩)) (by simp only [Dl,List.length_map,maxLen];omega)
 have hsz:Maps.size D0<=4096:=by rw [hsize];simpa [Dl] using hfew
 have c1:=Q0 hC.cell 1;have hdl:=Q3 hC.cell;simp at c1
 have hsorted:=Q6b m nn D0 _ w hown (by simp only [maxLen];omega) (by omega);have HS:=zz hsorted;have HP:=zz hperm;have HF:=zz hs;clear hsorted hperm hown hs hC hf hF Qdu hl hsize hsz;go_enter Tryz.func95,Tryz.ntmps95
 go_wp2_with fail
 refine (Qc4 _ _).mono ?_;rintro e w1 ⟨rfl,rfl⟩;go_wp2_with fail
 refine (HS.out).mono ?_;rintro e w2 ⟨v,ss,rfl,hp,hrow,_,hb⟩;have HP2:=zz hp;have HR:=zz hrow;have HB:=zz hb;clear hp hrow hb;go_wp2_with fail
 go_ret
 have hlen:(Ev ss).length=ss.length:=by simp [Ev]
 have hk:Kp No w w2:=((Kp.refl No w).alloc _).trans_same (Kp.of_below HB.out λk hk hs=>by simp at hk hs;omega);have hxs:(ss.mergeSort λx y=>decide (x<=y)).map encStr=(Ev ss).map Value.string:=by simp [Ev,encStr]
 have hpp:ss.Perm (s.files.map (·.1.data.toList)):=by
  have:=HP2.out.trans HP.out;rw [show Dl L=L.map λp=>(p.1,p.2.ptr) from rfl,List.map_map] at this;rw [HF.out,show Zk L=L.map λp=>(p.1,p.2.abs) from rfl,List.map_map];exact this
 obtain ⟨_,⟨rfl,h0⟩|⟨g,cap,cur,rfl,_,hg,_,_,_,hx⟩⟩:=HR.out
 ·have hss:ss=[]:=List.eq_nil_of_length_eq_zero h0;subst hss;exact ⟨[],none,0,by rw [hlen];rfl,hpp,by simp [Ev];exact Rd.nil _ _ _,hk⟩
 ·refine ⟨ss,some ⟨g,0,none⟩,cap,by rw [hlen];rfl,hpp,?_,hk⟩;refine Rd.row hg ?_ (Q3 hg) (Nat.le_refl _) (n:=ss.length);rw [<-hxs,<-hx];simp
structure Ny (w0:World) (b:Nat) (v:Value) (l:List UInt8) (wr:World):Prop where
 lo:w0.heap.size<=b
 cell:wr.heap[b]?=some (.cells #[v] 121 (0,0))
 own:Mer.Own wr 5 1 v l.length (u8s l)
 new: ∀g,v.ownBlock=some g->w0.heap.size<=g
 kp:Kp No w0 wr
def Iu (w1:World) (b:Nat) (v:Value) (w':World) (v':Value):Prop:=
 Kp (λk=>k=b\/v.ownBlock=some k) w1 w'/\(v'.ownBlock=v.ownBlock\/ ∃g,v'.ownBlock=some g/\w1.heap.size<=g)
theorem Iu.refl (w:World) (b:Nat) (v:Value):Iu w b v w v:=⟨Kp.refl _ _, .inl rfl⟩
theorem Iu.trans {w1 w2 w3:World} {b:Nat} {v v' v'':Value} (h:Iu w1 b v w2 v') (k:Iu w2 b v' w3 v''):Iu w1 b v w3 v'':=by
 refine ⟨h.1.trans k.1 λi hi hs=>?_,?_⟩
 ·rcases hs with hs|hs
  ·exact .inl hs
  ·rcases h.2 with e|⟨g,e,hg⟩
   ·exact .inr (e▸hs)
   ·rw [e] at hs;injection hs with hs;omega
 ·have hsz:=h.1.size;rcases k.2 with e|⟨g,e,hg⟩
  ·rcases h.2 with e2|⟨g,e2,hg⟩
   ·exact .inl (e.trans e2)
   ·exact .inr ⟨g,e.trans e2,hg⟩
  ·exact .inr ⟨g,e,Nat.le_trans hsz hg⟩
theorem Iu.no {w1 w2 w3:World} {b:Nat} {v v':Value} (h:Kp No w1 w2) (k:Iu w2 b v w3 v'):Iu w1 b v w3 v':=
 ⟨(Kp.of_no h).trans_same k.1,k.2.imp id λ⟨g,e,hg⟩=>⟨g,e,Nat.le_trans h.size hg⟩⟩
theorem Ny.keep {w0 wr W:World} {b:Nat} {v:Value} {l:List UInt8} (h:Ny w0 b v l wr) (hk:Kp No wr W):Ny w0 b v l W:=
 ⟨h.lo,hk.get h.cell λx=>x,h.own.keep hk λ_ _ x=>x,h.new,h.kp.trans_same hk⟩
theorem Iu.get {w0 w1 w':World} {b:Nat} {v v':Value} {l:List UInt8} (h:Ny w0 b v l w1) (k:Iu w1 b v w' v') {g:Nat} {cs:Array Value} {t:TypeId} (hg:w1.heap[g]?=some (.cells cs t (0,0))) (h1:t≠5) (h2:t≠121):w'.heap[g]?=some (.cells cs t (0,0)):=
 k.1.get hg λhs=>by
  rcases hs with rfl|hs
  ·exact Q7 hg h.cell h2 rfl
  ·obtain ⟨cur,hc⟩:=h.own.type g hs;exact Q7 hg hc h1 rfl
theorem Ny.start {w0 W:World} (h:Kp No w0 W):Ny w0 W.heap.size (.slice none 0 0) [] (W.alloc (.cells #[.slice none 0 0] 121)):=
 ⟨h.size,heap_alloc_new W _,Mer.Own.nil _ _ _,λg h=>(by cases h),h.alloc _⟩
theorem Ny.app {w0 wr:World} {b:Nat} {v:Value} {l:List UInt8} (h:Ny w0 b v l wr) (a:Option Addr) (c:Nat) (ys:List UInt8) (hy:Rd wr wr.heap.size a (u8s ys)) (hl:l.length+ys.length<=140737488355328):
  ∃a' c' W',(Builtin.append_ #[42,42] 42 #[v, .slice a ys.length c]).run Tryz.prog wr= .ok (.slice a' (l++ys).length c') W'/\W'.heap[b]?=some (.cells #[v] 121 (0,0))/\
   Ny w0 b (.slice a' (l++ys).length c') (l++ys) (W'.setCell ⟨b,0,none⟩ (.slice a' (l++ys).length c'))/\Iu wr b v (W'.setCell ⟨b,0,none⟩ (.slice a' (l++ys).length c')) (.slice a' (l++ys).length c'):=by
 obtain ⟨a',c',W',h1,h2,h3,h4⟩:=Fu wr v l ys h.own a c hy hl
 have hvb:v.ownBlock≠some b:=λe=>by
  obtain ⟨cur,hc⟩:=h.own.type b e;exact Q7 hc h.cell (by decide) rfl
 have hb:W'.heap[b]?=some (.cells #[v] 121 (0,0)):=h3.get h.cell hvb
 have hnb: ∀g,(Value.slice a' (l++ys).length c').ownBlock=some g->g≠b:=λg hg e=>by
  rcases h4 with h4|⟨g',h4,h5⟩
  ·exact hvb (by rw [<-h4,hg,e])
  ·rw [h4] at hg;injection hg with hg;have:=Q3 h.cell;omega
 have hs:Kp (Mer.One b) W' (W'.setCell ⟨b,0,none⟩ (.slice a' (l++ys).length c')):=(Kp.refl (Mer.One b) _).setCell (p:=⟨b,0,none⟩) (.inl (show Mer.One b b from rfl)) _;have hall:Kp (λk=>k=b\/v.ownBlock=some k) wr (W'.setCell ⟨b,0,none⟩ (.slice a' (l++ys).length c')):=(h3.mono λ_ _ x=> .inr x).trans hs λi _ e=> .inl e;refine ⟨a',c',W',h1,hb,⟨h.lo,Qh hb 0 _,h2.keep hs λg hg e=>hnb g hg e,λg hg=>?_,h.kp.trans hall λi hi hS=>?_⟩,hall,h4⟩
 ·rcases h4 with h4|⟨g',h4,h5⟩
  ·exact h.new g (h4▸hg)
  ·rw [h4] at hg;injection hg with hg;have:=h.kp.size;omega
 ·rcases hS with rfl|hS
  ·have:=h.lo;omega
  ·have:=h.new i hS;omega
theorem Ny.byte {w0 wr:World} {b:Nat} {v:Value} {l:List UInt8} (h:Ny w0 b v l wr) (x:UInt8) (hl:l.length<=140737488355000):
  ∃a' c' W',(Builtin.append_ #[42,42] 42 #[v, .slice (some ⟨wr.heap.size,0,none⟩) 1 1]).run Tryz.prog (wr.alloc (.cells #[.int .u8 (x.toNat:Int)] 5))= .ok (.slice a' (l.length+1) c') W'/\W'.heap[b]?=some (.cells #[v] 121 (0,0))/\
   Ny w0 b (.slice a' (l.length+1) c') (l++[x]) (W'.setCell ⟨b,0,none⟩ (.slice a' (l.length+1) c'))/\Iu wr b v (W'.setCell ⟨b,0,none⟩ (.slice a' (l.length+1) c')) (.slice a' (l.length+1) c'):=by
 have hk1:Kp No wr (wr.alloc (.cells #[.int .u8 (x.toNat:Int)] 5)):=zK.alloc _;obtain ⟨a',c',W',h1,h2,h3,h4⟩:=(h.keep hk1).app (some ⟨wr.heap.size,0,none⟩) 1 [x] (Rd.const wr 5 (0,0) _ _ rfl) (by simp only [List.length_singleton];omega);rw [List.length_append,List.length_singleton] at h1 h3 h4;exact ⟨a',c',W',h1,h2,h3,Iu.no hk1 h4⟩
def Q2o (n:Nat):Value:= .int .i64 (n:Int)
theorem Qm {n:Nat} (h:n<=4611686018427387904):(Ql n).length<=9:=Ju 8 n (Nat.lt_of_le_of_lt h (by decide))
def Q9k (w0 w1:World) (b:Nat) (v:Value) (l:List UInt8) (V:List Nat) (j:Nat) (wr:World):Prop:=
 ∃v',Ny w0 b v' (l++(V.take j).flatMap Ql) wr/\Iu w1 b v wr v'
def Qew (w0 w1:World) (b:Nat) (v:Value) (l:List UInt8) (n u:Nat) (wr:World):Prop:=
 ∃v' xs,Ql n=xs++Ql u/\Ny w0 b v' (l++xs) wr/\Iu w1 b v wr v'
theorem Vm (V:List Nat) (hV: ∀n∈V,n<=4611686018427387904):(V.flatMap Ql).length<=V.length*9:=by
 induction V with
 |nil=>exact Nat.le_refl _
 |cons x V ih=>
  have h1:=Qm (hV x (List.mem_cons_self ..));have h2:=ih λy hy=>hV y (List.mem_cons_of_mem _ hy);rw [List.flatMap_cons,List.length_append,List.length_cons];omega
theorem Uh (w0 w1:World) (b:Nat) (v:Value) (l:List UInt8) (h:Ny w0 b v l w1) (g c:Nat) (V:List Nat) (t:TypeId) (hV: ∀n∈V,n<=4611686018427387904) (hg:w1.heap[g]?=some (.cells (V.map Q2o).toArray t (0,0))) (ht1:t≠5) (ht2:t≠121) (hl:l.length<=1000000000) (hn:V.length<=100):
  Calls Tryz.prog 58 #[.pointer (some ⟨b,0,none⟩), .slice (some ⟨g,0,none⟩) V.length c] w1 λe w'=>e= .returned (.tuple #[])/\ ∃v',Ny w0 b v' (l++V.flatMap Ql) w'/\Iu w1 b v w' v':=by
 obtain ⟨K,hK⟩: ∃K,K=V.length:=⟨_,rfl⟩;have hgl:=Q3 hg;have hbl:=Q3 h.cell;have hfl:=λj=>Vm (V.take j) λn hn=>hV n (List.mem_of_mem_take hn);have Q9h:=zz (show ∀j,((V.take j).flatMap Ql).length<=900 from λj=>by have h1:=hfl j;have h2:=List.length_take_le' j V;omega);rw [<-hK];have HS:=zz (show Q9k w0 w1 b v l V 0 w1 from ⟨v,by simpa using h,Iu.refl _ _ _⟩);have H:=zz h;have HV:=zz hV;have HG:=zz (And.intro hg (And.intro ht1 ht2));have Qjs:=zz hK;have hKb:K<=100:=by omega
 clear h hV hg ht1 ht2 hK hn hfl;go_enter Tryz.func58,Tryz.ntmps58
 go_wp2_with fail
 go_loopw [11] (λi wr=> ∃j:Nat,j<=K/\i= .int .i64 (j:Int)/\Hid (Q9k w0 w1 b v l V j wr)) (λi _=>K-(intOf i).toNat)
 case atStart=>exact ⟨0,Nat.zero_le _,rfl,HS⟩
 case round=>
  obtain ⟨j,hj,rfl,HJ⟩:=hrel;rcases Nat.lt_or_ge j K with hlt|hge
  ·obtain ⟨vj,hI,hS⟩:=HJ.out;have Ql5:j<V.length:=by have:=Qjs.out;omega
   have hgr:=Iu.get H.out hS HG.out.1 HG.out.2.1 HG.out.2.2;have Qwa:=HV.out V[j] (List.getElem_mem Ql5)
   have hst:(V.take (j+1)).flatMap Ql=(V.take j).flatMap Ql++Ql V[j]:=by
    rw [List.take_succ_eq_append_getElem Ql5,List.flatMap_append];simp
   have hcg:wr.cell? ⟨g,j,none⟩=some (.int .i64 (V[j]:Int)):=by
    rw [Q0 hgr];simp [Ql5,Q2o]
   have Qvn:=Q3 hgr;have Qvb:=Q3 hI.cell;obtain ⟨n,hn⟩: ∃n,n=V[j]:=⟨_,rfl⟩;rw [<-hn] at Qwa hst hcg;have hlj:=Q9h.out j;obtain ⟨lj,Ql9⟩: ∃lj,lj=l++(V.take j).flatMap Ql:=⟨_,rfl⟩;have hlb:lj.length<=1000000900:=by rw [Ql9,List.length_append];omega
   rw [<-Ql9] at hI;have HST:=zz (show l++(V.take (j+1)).flatMap Ql=lj++Ql n from by rw [hst,Ql9,List.append_assoc]);have d3:min (n:Int) 4611686018427387904=(n:Int):=by omega
   have Qnq:min n 4611686018427387904=n:=by omega
   have d4:max 0 (n:Int)=(n:Int):=by omega
   have hmod:(n:Int) % 18446744073709551616=(n:Int):=Int.emod_eq_of_lt (by omega) (by omega);have HU:=zz (show Qew w0 w1 b v lj n n wr from ⟨vj,[],rfl,by simpa using hI,hS⟩);have Qtg:=zz Qwa;clear hI hS Ql5 hgr hst hn hlj Ql9 HJ;go_upto_block 2 with fail
   go_wp2_with fail
   go_loopw [6] (λs6 wr=> ∃u:Nat,u<=4611686018427387904/\s6= .int .u64 (u:Int)/\Hid (Qew w0 w1 b v lj n u wr)) (λs6 _=>(intOf s6).toNat)
   case atStart=>exact ⟨n,Qtg.out,rfl,HU⟩
   case round=>
    obtain ⟨u,hu,rfl,HR⟩:=hrel;obtain ⟨v',xs,hnum,hI,hS⟩:=HR.out
    have hxl:xs.length<=9:=by
     have h1:=Qm Qtg.out;rw [hnum,List.length_append] at h1;omega
    have Q8k:(lj++xs).length<=1000000909:=by rw [List.length_append];omega
    have c0:=Q0 hI.cell 0;simp at c0
    have Qvb:=Q3 hI.cell;clear HR d3 Qnq d4 hmod hcg HU Qvn;by_cases hlt2:128<=u
    ·have e1:decide ((128:Int)<=(u:Int))=true:=by rw [decide_eq_true_iff];omega
     have e2:decide (128<=u)=true:=decide_eq_true hlt2;obtain ⟨a',c',W',hrun,hbW,hI2,hS2⟩:=hI.byte (UInt8.ofNat (u % 128+128)) (by omega);have b3:=Q32 u;rw [<-Me u] at b3;obtain ⟨z,hz,b4⟩: ∃z:Nat,z=u/128/\(u:Int)/128=(z:Int):=⟨u/128,rfl,(Int.natCast_ediv u 128).symm⟩;have hnew:Qew w0 w1 b v lj n z (W'.setCell ⟨b,0,none⟩ (.slice a' ((lj++xs).length+1) c')):=⟨_,xs++[UInt8.ofNat (u % 128+128)],by rw [hnum,E0 hlt2,hz,List.append_assoc];rfl,by rw [<-List.append_assoc];exact hI2,hS.trans hS2⟩;obtain ⟨x,hx⟩: ∃x:Nat,x=(UInt8.ofNat (u % 128+128)).toNat:=⟨_,rfl⟩;obtain ⟨ln,hln⟩: ∃ln,ln=(lj++xs).length+1:=⟨_,rfl⟩;rw [<-hx] at hrun b3;rw [<-hln] at hrun hnew;have cw:W'.cell? ⟨b,0,none⟩=some v':=Q0 hbW 0;have fw:=Qc hbW 0;have Qv9:=Q3 hbW;have HX:=zz hrun;have Yz:=zz hnew;have hzu:z<u:=by omega
     clear hz hnum hI hS hrun hbW hI2 hS2 hnew hx hln hxl Q8k;go_wp2_with (at_builtin;refine wpList_append_run rfl rfl rfl rfl HX.out ?_)
     go_roundw
     case rel=>exact ⟨z,by omega,rfl,Yz⟩
     case measure=>simp [intOf];omega
    ·have e1:decide ((128:Int)<=(u:Int))=false:=by rw [decide_eq_false_iff_not];omega
     have e2:decide (128<=u)=false:=by rw [decide_eq_false_iff_not];omega
     have hm:(u:Int) % 256=(u:Int):=Int.emod_eq_of_lt (by omega) (by omega);obtain ⟨a',c',W',hrun,hbW,hI2,hS2⟩:=hI.byte (UInt8.ofNat u) (by omega);rw [show (UInt8.ofNat u).toNat=u by rw [Lb];omega] at hrun;have hl:Ql n=xs++[UInt8.ofNat u]:=by rw [hnum,Xe (by omega)]
     have hnew:Q9k w0 w1 b v l V (j+1) (W'.setCell ⟨b,0,none⟩ (.slice a' ((lj++xs).length+1) c')):=⟨_,by rw [HST.out,hl,<-List.append_assoc];exact hI2,hS.trans hS2⟩;obtain ⟨ln,hln⟩: ∃ln,ln=(lj++xs).length+1:=⟨_,rfl⟩;rw [<-hln] at hrun hnew;have cw:W'.cell? ⟨b,0,none⟩=some v':=Q0 hbW 0;have fw:=Qc hbW 0;have Qv9:=Q3 hbW;have HX:=zz hrun;have Yz:=zz hnew;clear hnum hI hS hrun hbW hI2 hS2 hnew hln hl hxl Q8k;go_wp2_with (at_builtin;refine wpList_append_run rfl rfl rfl rfl HX.out ?_)
     go_roundw
     case rel=>exact ⟨j+1,hlt,by go_num,Yz⟩
     case measure=>simp [intOf];omega
  ·obtain rfl:j=K:=by omega
   clear hge;go_wp2_with fail
   refine bodyPost_end (results_none rfl _ _ _) rfl ⟨rfl,?_⟩;have:=HJ.out;rw [Qjs.out] at this;unfold Q9k at this;rwa [List.take_length] at this
theorem Ab {w1 W:World} {b:Nat} {v v':Value} {a:Option Addr} {xs:List Value} (hr:Rd w1 w1.heap.size a xs) (hne: ∀g o,0<xs.length->a=some ⟨g,o,none⟩->g≠b/\v.ownBlock≠some g) (hS:Iu w1 b v W v'):Rd W W.heap.size a xs:=λhx=>by
 obtain ⟨g,off,ha,hg,_,hc⟩:=hr hx;obtain ⟨n1,n2⟩:=hne g off hx ha;refine ⟨g,off,ha,hS.1.lt hg,Nat.le_refl _,λj u hu=>?_⟩;rw [hS.1.cell (p:=⟨g,off+j,none⟩) hg (λh=>h.elim n1 n2)];exact hc j u hu
theorem Ny.old {w0 w1:World} {b:Nat} {v:Value} {l:List UInt8} (h:Ny w0 b v l w1) {g:Nat} (hg:g<w0.heap.size):g≠b/\v.ownBlock≠some g:=
 ⟨λe=>by have:=h.lo;omega,λe=>by have:=h.new g e;omega⟩
theorem Vc (k:ByteArray) (w:World): ∃c W,(convert 9 42 (.string k)).run Tryz.prog w= .ok (.slice (some ⟨w.heap.size,0,none⟩) k.size c) W/\Kp No w W/\W.heap.size=w.heap.size+1/\Rd W W.heap.size (some ⟨w.heap.size,0,none⟩) (u8s k.data.toList)/\
  ∃row m,W.heap[w.heap.size]?=some (.cells row 5 (m,m+1)):=by
 have h:=run_bytes_of_string (P:=Tryz.prog) w 9 42 5 k Tryz.underlying9 Tryz.underlying42 Tryz.underlying5;have hnew:=heap_alloc_new w.drew (.cells (bytesRow k (grownCap w k.size 0 5)) 5 ((bytesRow k (grownCap w k.size 0 5)).size,(bytesRow k (grownCap w k.size 0 5)).size+1));refine ⟨_,_,h,(zK.drew).alloc _,by simp,λhx=>⟨w.heap.size,0,rfl,by simp,Nat.le_refl _,λj u hu=>?_⟩,_,_,hnew⟩
 have hj:j<k.data.size:=by
  have:=(List.getElem?_eq_some_iff.1 hu).1;rwa [Zz,Array.length_toList] at this
 have hb:=bytesRow_at k (grownCap w k.size 0 5) j hj;have hc:(w.drew.alloc (.cells (bytesRow k (grownCap w k.size 0 5)) 5 ((bytesRow k (grownCap w k.size 0 5)).size,(bytesRow k (grownCap w k.size 0 5)).size+1))).cell? ⟨w.heap.size,0+j,none⟩=(bytesRow k (grownCap w k.size 0 5))[0+j]?:=cell_of_row _ _ _ _ _ _ hnew;rw [hc,Nat.zero_add,hb,<-hu,Qik,Array.getElem?_toList,Array.getElem?_eq_getElem hj];rfl
theorem Qey (w0 w1:World) (b:Nat) (v:Value) (l:List UInt8) (h:Ny w0 b v l w1) (a:Option Addr) (c:Nat) (p:List UInt8) (hp:Rd w1 w1.heap.size a (u8s p)) (hl:l.length+p.length<=1000000000):
  Calls Tryz.prog 59 #[.pointer (some ⟨b,0,none⟩), .slice a p.length c] w1 λe w'=>e= .returned (.tuple #[])/\ ∃v',Ny w0 b v' (l++p) w'/\Iu w1 b v w' v':=by
 obtain ⟨a',c',W',hrun,hbW,hI,hS⟩:=h.app a c p hp (by omega);have c0:=Q0 h.cell 0;simp at c0
 have hbl:=Q3 h.cell;have cw:W'.cell? ⟨b,0,none⟩=some v:=Q0 hbW 0;have fw:=Qc hbW 0;have Qv9:=Q3 hbW;obtain ⟨n,hn⟩: ∃n,n=p.length:=⟨_,rfl⟩;obtain ⟨ln,hln⟩: ∃ln,ln=(l++p).length:=⟨_,rfl⟩;rw [<-hln] at hrun hI hS;rw [<-hn] at hrun⊢;have HX:=zz hrun;have HI:=zz (And.intro hI hS);clear hrun hI hS hbW h hp hl hn hln;go_enter Tryz.func59,Tryz.ntmps59
 go_wp2_with (at_builtin;refine wpList_append_run rfl rfl rfl rfl HX.out ?_)
 refine bodyPost_end (results_none rfl _ _ _) rfl ⟨rfl,_,HI.out⟩
def Qsw (w0 w1:World) (b:Nat) (v:Value) (l p:List UInt8):Nat->World->Prop
 |0,wr=>wr=w1
 |_+1,wr=> ∃v',Ny w0 b v' (l++Jg p) wr/\Iu w1 b v wr v'
theorem M4 (w0 w1:World) (b:Nat) (v:Value) (l:List UInt8) (h:Ny w0 b v l w1) (a:Option Addr) (cp:Nat) (p:List UInt8) (hp: ∀W v',Iu w1 b v W v'->Rd W W.heap.size a (u8s p)) (hl:l.length+p.length<=900000000)
  (g c:Nat) (t:TypeId) (hg:w1.heap[g]?=some (.cells #[.slice a p.length cp] t (0,0))):
  Calls Tryz.prog 111 #[.pointer (some ⟨b,0,none⟩), .slice (some ⟨g,0,none⟩) 1 c] w1 λe w'=>e= .returned (.tuple #[])/\ ∃v',Ny w0 b v' (l++Jg p) w'/\Iu w1 b v w' v':=by
 obtain ⟨n,hn⟩: ∃n,n=p.length:=⟨_,rfl⟩;have hnb:n<=900000000:=by omega
 rw [<-hn] at hg;have cg:w1.cell? ⟨g,0,none⟩=some (.slice a n cp):=Q0 hg 0;have hgl:=Q3 hg;have hbl:=Q3 h.cell;have H:=zz h;have HP:=zz hp;have HN:=zz hn;have HL:=zz hl;clear h hp hn hl hg;go_enter Tryz.func111,Tryz.ntmps111
 go_wp2_with fail
 go_loopw [8] (λi wr=> ∃j:Nat,j<=1/\i= .int .i64 (j:Int)/\Hid (Qsw w0 w1 b v l p j wr)) (λi _=>1-(intOf i).toNat)
 case atStart=>exact ⟨0,by omega,rfl,zz rfl⟩
 case round=>
  obtain ⟨j,hj,rfl,HJ⟩:=hrel;rcases (show j=0\/j=1 by omega) with rfl|rfl
  ·have hj0:wr=w1:=HJ.out;subst hj0;clear HJ;obtain ⟨w2,hw2⟩: ∃W,W=wr.alloc (.cells #[.int .i64 (n:Int)] 3):=⟨_,rfl⟩;have k2:Kp No wr w2:=by rw [hw2];exact zK.alloc _
   have b2:w2.heap[wr.heap.size]?=some (.cells ([n].map Q2o).toArray 3 (0,0)):=by rw [hw2];exact heap_alloc_new wr _
   have Es:=Uh w0 w2 b v l (H.out.keep k2) wr.heap.size 1 [n] 3 (λx hx=>by rw [List.mem_singleton] at hx;omega) b2 (by decide) (by decide) (by have:=HL.out;omega) (by show 1<=100;decide);have Dt:=zz Es;have HW2:=zz hw2;have Qz:=zz k2;clear Es hw2 k2 b2;rw [show ((0:Nat):Int)=0 from rfl];go_wp2_with fail
   rw [<-HW2.out];refine Dt.out.mono ?_;rintro e w3 ⟨rfl,v3,Quy,hS3⟩;have Qq5:Iu wr b v w3 v3:=Iu.no Qz.out hS3;have Qq2:Ny w0 b v3 (l++Ql n) w3:=by simpa using Quy
   have hraw:=Qey w0 w3 b v3 (l++Ql n) Qq2 a cp p (HP.out w3 v3 Qq5) (by
    have h1:=Qm (n:=n) (by omega);have h2:=HL.out;rw [List.length_append];omega)
   rw [<-HN.out] at hraw;have HRW:=zz hraw;have Qzh:=zz Qq5;have J8f:=Q3 Qq2.cell;clear hraw Qq5 Quy Qq2 hS3 Dt;go_wp2_with fail
   refine HRW.out.mono ?_;rintro e w4 ⟨rfl,v4,Qa3,hS4⟩;have Yz:=zz (show Qsw w0 wr b v l p 1 w4 from ⟨v4,by unfold Jg;rw [<-HN.out,<-List.append_assoc];exact Qa3,Qzh.out.trans hS4⟩);clear Qa3 hS4 HRW;go_wp2_with fail
   go_roundw
   case rel=>exact ⟨1,by omega,rfl,Yz⟩
   case measure=>simp [intOf]
  ·go_wp2_with fail
   exact bodyPost_end (results_none rfl _ _ _) rfl ⟨rfl,HJ.out⟩
end Go.Proofs.YtgnkmjeoaoongaaGreatDoor
