/- store -/
import Derived.Test.YtgnkmjeoaoongaaGreatDoorVc1
set_option maxRecDepth 100000
set_option maxHeartbeats 4000000
namespace Go.Proofs.YtgnkmjeoaoongaaGreatDoor
open Go.RowKit Go.Mer
structure Lv (w0:World) (b:Nat) (v:Value) (l:List UInt8) (wr:World):Prop where
 lo:w0.heap.size<=b
 cell:wr.heap[b]?=some (.cells #[v] 121 (0,0))
 own:Mer.Own wr 5 1 v l.length (u8s l)
 new: ∀g,v.ownBlock=some g->w0.heap.size<=g
 kp:Kp No w0 wr
def B0 (w1:World) (b:Nat) (v:Value) (w':World) (v':Value):Prop:=
 Kp (λk=>k=b\/v.ownBlock=some k) w1 w'/\(v'.ownBlock=v.ownBlock\/ ∃g,v'.ownBlock=some g/\w1.heap.size<=g)
theorem B0.refl (w:World) (b:Nat) (v:Value):B0 w b v w v:=⟨Kp.refl _ _, .inl rfl⟩
theorem B0.trans {w1 w2 w3:World} {b:Nat} {v v' v'':Value} (h:B0 w1 b v w2 v') (k:B0 w2 b v' w3 v''):B0 w1 b v w3 v'':=by
 refine ⟨h.1.trans k.1 λi hi hs=>?_,?_⟩
 ·rcases hs with hs|hs
  ·exact .inl hs
  ·rcases h.2 with e|⟨g,e,hg⟩
   ·exact .inr (e▸hs)
   ·rw [e] at hs;injection hs with hs;omega
 ·have hsz:=h.1.size;rcases k.2 with e|⟨g,e,hg⟩
  ·rcases h.2 with e2|⟨g,e2,hg⟩
   ·exact .inl (e.trans e2)
   ·exact .inr ⟨g,e.trans e2,hg⟩
  ·exact .inr ⟨g,e,Nat.le_trans hsz hg⟩
theorem B0.no {w1 w2 w3:World} {b:Nat} {v v':Value} (h:Kp No w1 w2) (k:B0 w2 b v w3 v'):B0 w1 b v w3 v':=
 ⟨(Kp.Qx h).Q0 k.1,k.2.imp id λ⟨g,e,hg⟩=>⟨g,e,Nat.le_trans h.size hg⟩⟩
theorem Lv.keep {w0 wr W:World} {b:Nat} {v:Value} {l:List UInt8} (h:Lv w0 b v l wr) (hk:Kp No wr W):Lv w0 b v l W:=
 ⟨h.lo,hk.get h.cell λx=>x,h.own.keep hk λ_ _ x=>x,h.new,h.kp.Q0 hk⟩
theorem B0.get {w0 w1 w':World} {b:Nat} {v v':Value} {l:List UInt8} (h:Lv w0 b v l w1) (k:B0 w1 b v w' v') {g:Nat} {cs:Array Value} {t:TypeId} (hg:w1.heap[g]?=some (.cells cs t (0,0))) (h1:t≠5) (h2:t≠121):w'.heap[g]?=some (.cells cs t (0,0)):=
 k.1.get hg λhs=>by
  rcases hs with rfl|hs
  ·exact Qd hg h.cell h2 rfl
  ·obtain ⟨cur,hc⟩:=h.own.type g hs;exact Qd hg hc h1 rfl
theorem Lv.start {w0 W:World} (h:Kp No w0 W):Lv w0 W.heap.size (.slice none 0 0) [] (W.alloc (.cells #[.slice none 0 0] 121)):=
 ⟨h.size,heap_alloc_new W _,Mer.Own.nil _ _ _,λg h=>(by cases h),h.alloc _⟩
theorem Lv.app {w0 wr:World} {b:Nat} {v:Value} {l:List UInt8} (h:Lv w0 b v l wr) (a:Option Addr) (c:Nat) (ys:List UInt8) (hy:Rd wr wr.heap.size a (u8s ys)) (hl:l.length+ys.length<=140737488355328):
  ∃a' c' W',(Builtin.append_ #[42,42] 42 #[v, .slice a ys.length c]).run Tryz.prog wr= .ok (.slice a' (l++ys).length c') W'/\W'.heap[b]?=some (.cells #[v] 121 (0,0))/\
   Lv w0 b (.slice a' (l++ys).length c') (l++ys) (W'.setCell ⟨b,0,none⟩ (.slice a' (l++ys).length c'))/\B0 wr b v (W'.setCell ⟨b,0,none⟩ (.slice a' (l++ys).length c')) (.slice a' (l++ys).length c'):=by
 obtain ⟨a',c',W',h1,h2,h3,h4⟩:=Eb wr v l ys h.own a c hy hl
 have hvb:v.ownBlock≠some b:=λe=>by
  obtain ⟨cur,hc⟩:=h.own.type b e;exact Qd hc h.cell (by decide) rfl
 have hb:W'.heap[b]?=some (.cells #[v] 121 (0,0)):=h3.get h.cell hvb
 have hnb: ∀g,(Value.slice a' (l++ys).length c').ownBlock=some g->g≠b:=λg hg e=>by
  rcases h4 with h4|⟨g',h4,h5⟩
  ·exact hvb (by rw [<-h4,hg,e])
  ·rw [h4] at hg;injection hg with hg;have:=Q7 h.cell;omega
 have hs:Kp (Mer.One b) W' (W'.setCell ⟨b,0,none⟩ (.slice a' (l++ys).length c')):=(Kp.refl (Mer.One b) _).setCell (p:=⟨b,0,none⟩) (.inl (show Mer.One b b from rfl)) _;have hall:Kp (λk=>k=b\/v.ownBlock=some k) wr (W'.setCell ⟨b,0,none⟩ (.slice a' (l++ys).length c')):=(h3.mono λ_ _ x=> .inr x).trans hs λi _ e=> .inl e;refine ⟨a',c',W',h1,hb,⟨h.lo,Ql hb 0 _,h2.keep hs λg hg e=>hnb g hg e,λg hg=>?_,h.kp.trans hall λi hi hS=>?_⟩,hall,h4⟩
 ·rcases h4 with h4|⟨g',h4,h5⟩
  ·exact h.new g (h4▸hg)
  ·rw [h4] at hg;injection hg with hg;have:=h.kp.size;omega
 ·rcases hS with rfl|hS
  ·have:=h.lo;omega
  ·have:=h.new i hS;omega
theorem Lv.byte {w0 wr:World} {b:Nat} {v:Value} {l:List UInt8} (h:Lv w0 b v l wr) (x:UInt8) (hl:l.length<=140737488355000):
  ∃a' c' W',(Builtin.append_ #[42,42] 42 #[v, .slice (some ⟨wr.heap.size,0,none⟩) 1 1]).run Tryz.prog (wr.alloc (.cells #[.int .u8 (x.toNat:Int)] 5))= .ok (.slice a' (l.length+1) c') W'/\W'.heap[b]?=some (.cells #[v] 121 (0,0))/\
   Lv w0 b (.slice a' (l.length+1) c') (l++[x]) (W'.setCell ⟨b,0,none⟩ (.slice a' (l.length+1) c'))/\B0 wr b v (W'.setCell ⟨b,0,none⟩ (.slice a' (l.length+1) c')) (.slice a' (l.length+1) c'):=by
 have hk1:Kp No wr (wr.alloc (.cells #[.int .u8 (x.toNat:Int)] 5)):=zK.alloc _;obtain ⟨a',c',W',h1,h2,h3,h4⟩:=(h.keep hk1).app (some ⟨wr.heap.size,0,none⟩) 1 [x] (Rd.const wr 5 (0,0) _ _ rfl) (by simp only [List.length_singleton];omega);rw [List.length_append,List.length_singleton] at h1 h3 h4;exact ⟨a',c',W',h1,h2,h3,B0.no hk1 h4⟩
def Q51 (n:Nat):Value:= .int .i64 (n:Int)
theorem J4 {n:Nat} (h:n<=4611686018427387904):(Qq n).length<=9:=Js 8 n (Nat.lt_of_le_of_lt h (by decide))
def Qd8 (w0 w1:World) (b:Nat) (v:Value) (l:List UInt8) (V:List Nat) (j:Nat) (wr:World):Prop:=
 ∃v',Lv w0 b v' (l++(V.take j).flatMap Qq) wr/\B0 w1 b v wr v'
def Qiw (w0 w1:World) (b:Nat) (v:Value) (l:List UInt8) (n u:Nat) (wr:World):Prop:=
 ∃v' xs,Qq n=xs++Qq u/\Lv w0 b v' (l++xs) wr/\B0 w1 b v wr v'
theorem U5 (V:List Nat) (hV: ∀n∈V,n<=4611686018427387904):(V.flatMap Qq).length<=V.length*9:=by
 induction V with
 |nil=>exact Nat.le_refl _
 |cons x V ih=>
  have h1:=J4 (hV x (List.mem_cons_self ..));have h2:=ih λy hy=>hV y (List.mem_cons_of_mem _ hy);rw [List.flatMap_cons,List.length_append,List.length_cons];omega
theorem En (w0 w1:World) (b:Nat) (v:Value) (l:List UInt8) (h:Lv w0 b v l w1) (g c:Nat) (V:List Nat) (t:TypeId) (hV: ∀n∈V,n<=4611686018427387904) (hg:w1.heap[g]?=some (.cells (V.map Q51).toArray t (0,0))) (ht1:t≠5) (ht2:t≠121) (hl:l.length<=1000000000) (hn:V.length<=100):
  Calls Tryz.prog 58 #[.pointer (some ⟨b,0,none⟩), .slice (some ⟨g,0,none⟩) V.length c] w1 λe w'=>e= .returned (.tuple #[])/\ ∃v',Lv w0 b v' (l++V.flatMap Qq) w'/\B0 w1 b v w' v':=by
 obtain ⟨K,hK⟩: ∃K,K=V.length:=⟨_,rfl⟩;have hgl:=Q7 hg;have hbl:=Q7 h.cell;have hfl:=λj=>U5 (V.take j) λn hn=>hV n (List.mem_of_mem_take hn);have Ao:=zz (show ∀j,((V.take j).flatMap Qq).length<=900 from λj=>by have h1:=hfl j;have h2:=List.length_take_le' j V;omega);rw [<-hK];have HS:=zz (show Qd8 w0 w1 b v l V 0 w1 from ⟨v,by simpa using h,B0.refl _ _ _⟩);have H:=zz h;have HV:=zz hV;have HG:=zz (And.intro hg (And.intro ht1 ht2));have Qd3:=zz hK;have hKb:K<=100:=by omega
 clear h hV hg ht1 ht2 hK hn hfl;go_enter Tryz.func58,Tryz.ntmps58
 go_wp2_with fail
 go_loopw [11] (λi wr=> ∃j:Nat,j<=K/\i= .int .i64 (j:Int)/\Hid (Qd8 w0 w1 b v l V j wr)) (λi _=>K-(intOf i).toNat)
 case atStart=>exact ⟨0,Nat.zero_le _,rfl,HS⟩
 case round=>
  obtain ⟨j,hj,rfl,HJ⟩:=hrel;rcases Nat.lt_or_ge j K with hlt|hge
  ·obtain ⟨vj,hI,hS⟩:=HJ.out;have Qq2:j<V.length:=by have:=Qd3.out;omega
   have hgr:=B0.get H.out hS HG.out.1 HG.out.2.1 HG.out.2.2;have J1y:=HV.out V[j] (List.getElem_mem Qq2)
   have hst:(V.take (j+1)).flatMap Qq=(V.take j).flatMap Qq++Qq V[j]:=by
    rw [List.take_succ_eq_append_getElem Qq2,List.flatMap_append];simp
   have hcg:wr.cell? ⟨g,j,none⟩=some (.int .i64 (V[j]:Int)):=by
    rw [Q4 hgr];simp [Qq2,Q51]
   have J1a:=Q7 hgr;have J0y:=Q7 hI.cell;obtain ⟨n,hn⟩: ∃n,n=V[j]:=⟨_,rfl⟩;rw [<-hn] at J1y hst hcg;have hlj:=Ao.out j;obtain ⟨lj,Qq5⟩: ∃lj,lj=l++(V.take j).flatMap Qq:=⟨_,rfl⟩;have hlb:lj.length<=1000000900:=by rw [Qq5,List.length_append];omega
   rw [<-Qq5] at hI;have HST:=zz (show l++(V.take (j+1)).flatMap Qq=lj++Qq n from by rw [hst,Qq5,List.append_assoc]);have d3:min (n:Int) 4611686018427387904=(n:Int):=by omega
   have Qsh:min n 4611686018427387904=n:=by omega
   have d4:max 0 (n:Int)=(n:Int):=by omega
   have hmod:(n:Int) % 18446744073709551616=(n:Int):=Int.emod_eq_of_lt (by omega) (by omega);have HU:=zz (show Qiw w0 w1 b v lj n n wr from ⟨vj,[],rfl,by simpa using hI,hS⟩);have Qys:=zz J1y;clear hI hS Qq2 hgr hst hn hlj Qq5 HJ;go_upto_block 2 with fail
   go_wp2_with fail
   go_loopw [6] (λs6 wr=> ∃u:Nat,u<=4611686018427387904/\s6= .int .u64 (u:Int)/\Hid (Qiw w0 w1 b v lj n u wr)) (λs6 _=>(intOf s6).toNat)
   case atStart=>exact ⟨n,Qys.out,rfl,HU⟩
   case round=>
    obtain ⟨u,hu,rfl,HR⟩:=hrel;obtain ⟨v',xs,hnum,hI,hS⟩:=HR.out
    have hxl:xs.length<=9:=by
     have h1:=J4 Qys.out;rw [hnum,List.length_append] at h1;omega
    have Qfz:(lj++xs).length<=1000000909:=by rw [List.length_append];omega
    have c0:=Q4 hI.cell 0;simp at c0
    have J0y:=Q7 hI.cell;clear HR d3 Qsh d4 hmod hcg HU J1a;by_cases hlt2:128<=u
    ·have e1:decide ((128:Int)<=(u:Int))=true:=by rw [decide_eq_true_iff];omega
     have e2:decide (128<=u)=true:=decide_eq_true hlt2;obtain ⟨a',c',W',hrun,hbW,hI2,hS2⟩:=hI.byte (UInt8.ofNat (u % 128+128)) (by omega);have b3:=Q5g u;rw [<-Lz u] at b3;obtain ⟨z,hz,b4⟩: ∃z:Nat,z=u/128/\(u:Int)/128=(z:Int):=⟨u/128,rfl,(Int.natCast_ediv u 128).symm⟩;have hnew:Qiw w0 w1 b v lj n z (W'.setCell ⟨b,0,none⟩ (.slice a' ((lj++xs).length+1) c')):=⟨_,xs++[UInt8.ofNat (u % 128+128)],by rw [hnum,Eg hlt2,hz,List.append_assoc];rfl,by rw [<-List.append_assoc];exact hI2,hS.trans hS2⟩;obtain ⟨x,hx⟩: ∃x:Nat,x=(UInt8.ofNat (u % 128+128)).toNat:=⟨_,rfl⟩;obtain ⟨ln,hln⟩: ∃ln,ln=(lj++xs).length+1:=⟨_,rfl⟩;rw [<-hx] at hrun b3;rw [<-hln] at hrun hnew;have cw:W'.cell? ⟨b,0,none⟩=some v':=Q4 hbW 0;have fw:=Qh hbW 0;have J0v:=Q7 hbW;have HX:=zz hrun;have Y4:=zz hnew;have hzu:z<u:=by omega
     clear hz hnum hI hS hrun hbW hI2 hS2 hnew hx hln hxl Qfz;go_wp2_with (at_builtin;refine wpList_append_run rfl rfl rfl rfl HX.out ?_)
     go_roundw
     case rel=>exact ⟨z,by omega,rfl,Y4⟩
     case measure=>simp [intOf];omega
    ·have e1:decide ((128:Int)<=(u:Int))=false:=by rw [decide_eq_false_iff_not];omega
     have e2:decide (128<=u)=false:=by rw [decide_eq_false_iff_not];omega
     have hm:(u:Int) % 256=(u:Int):=Int.emod_eq_of_lt (by omega) (by omega);obtain ⟨a',c',W',hrun,hbW,hI2,hS2⟩:=hI.byte (UInt8.ofNat u) (by omega);rw [show (UInt8.ofNat u).toNat=u by rw [Ov];omega] at hrun;have hl:Qq n=xs++[UInt8.ofNat u]:=by rw [hnum,Yh (by omega)]
     have hnew:Qd8 w0 w1 b v l V (j+1) (W'.setCell ⟨b,0,none⟩ (.slice a' ((lj++xs).length+1) c')):=⟨_,by rw [HST.out,hl,<-List.append_assoc];exact hI2,hS.trans hS2⟩;obtain ⟨ln,hln⟩: ∃ln,ln=(lj++xs).length+1:=⟨_,rfl⟩;rw [<-hln] at hrun hnew;have cw:W'.cell? ⟨b,0,none⟩=some v':=Q4 hbW 0;have fw:=Qh hbW 0;have J0v:=Q7 hbW;have HX:=zz hrun;have Y4:=zz hnew;clear hnum hI hS hrun hbW hI2 hS2 hnew hln hl hxl Qfz;go_wp2_with (at_builtin;refine wpList_append_run rfl rfl rfl rfl HX.out ?_)
     go_roundw
     case rel=>exact ⟨j+1,hlt,by go_num,Y4⟩
     case measure=>simp [intOf];omega
  ·obtain rfl:j=K:=by omega
   clear hge;go_wp2_with fail
   refine bodyPost_end (results_none rfl _ _ _) rfl ⟨rfl,?_⟩;have:=HJ.out;rw [Qd3.out] at this;unfold Qd8 at this;rwa [List.take_length] at this
end Go.Proofs.YtgnkmjeoaoongaaGreatDoor
