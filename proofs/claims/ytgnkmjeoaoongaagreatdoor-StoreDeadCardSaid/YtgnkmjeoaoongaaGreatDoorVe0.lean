/- store -/
import Derived.Test.YtgnkmjeoaoongaaGreatDoorVd6
import Derived.Test.YtgnkmjeoaoongaaGreatDoorVd4
set_option maxRecDepth 100000
set_option maxHeartbeats 4000000
open List (map_nil not_mem_nil nodup_nil)
namespace Go.Proofs.YtgnkmjeoaoongaaGreatDoor
open Go.RowKit Go.Mer
structure Bu (k:Nat) (P:ByteArray) (ds:Qz) (st:Ja) (lg:Jf):Prop where
 fit:Fit k (Zj P st.Zc) ds lg
 whole:st.dead=false->lg.dead=false/\Whole (Zj P st.Zc) ds lg
 n:st.n<=5000+k
theorem Bu.mono {k k':Nat} {P:ByteArray} {ds:Qz} {st:Ja} {lg:Jf} (h:Bu k P ds st lg) (hk:k<=k'):Bu k' P ds st lg:=⟨h.fit.mono hk,h.whole,by have:=h.n;omega⟩
theorem Qfa {P:ByteArray} {s:Qz} {st:Jf} {p:List UInt8} (h:(Jz P s st p).1.2=0):st.dead=false/\(Jz P s st p).2.2.dead=false:=by
 unfold Jz at h⊢;split at h
 ·cases h
 ·next hd=>
  have hd:st.dead=false:=by simpa using hd
  refine ⟨hd,?_⟩;split at h
  ·cases h
  ·next hl=>
   rw [if_neg (by rw [hd];decide),if_neg hl];split at h
   ·next h1=>
    rw [if_pos h1];simp only at h⊢
    split at h
    ·next h2=>rw [if_pos h2];simp only [Y5];exact (Q8l P s st).2.2.trans hd
    ·next h2=>exact absurd h h2
   ·next h1=>exact absurd h h1
theorem Qh1 {P:ByteArray} {s:Qz} {st:Jf} (h:(Yi P s st).1=0):(Yi P s st).2.2.dead=false:=by
 unfold Yi at h⊢;split at h
 ·cases h
 ·next hd=>
  rw [if_neg hd];simp only at h⊢
  rw [h];rfl
theorem Q9k {k:Nat} {P:ByteArray} {s:Qz} {lg:Jf} (h:Fit k P s lg) (hk:k<=100000) (p:List UInt8):Fit (k+1) P (J7 P s lg p).2.1 (J7 P s lg p).2.2:=by
 have h1:=Q4m h hk p;unfold J7;split
 ·exact Qpm h1
 ·exact h1
theorem Q5w {k:Nat} {P:ByteArray} {s:Qz} {lg:Jf} (h:Fit k P s lg) (hw:Whole P s lg) (hk:k<=100000) (p:List UInt8) (h0:(J7 P s lg p).1=0):(J7 P s lg p).2.2.dead=false/\Whole P (J7 P s lg p).2.1 (J7 P s lg p).2.2:=by
 unfold J7 at h0⊢;split at h0
 ·next ha=>
  rw [if_pos ha];obtain ⟨a1,a2⟩:=Qfa ha;exact ⟨Qh1 h0,Qhj (Qhi hw h hk p a1 a2)⟩
 ·next ha=>exact absurd h0 ha
theorem Ql3 {k:Nat} {P:ByteArray} {ds:Qz} {st:Ja} {lg:Jf} (h:Bu k P ds st lg) (hk:k<=100000) (o:Nat) (l:List Qu):Bu (k+1) P (J8 P o ds st lg l).2.1 (J8 P o ds st lg l).2.2.1 (J8 P o ds st lg l).2.2.2:=by
 unfold J8;split
 ·exact h.mono (Nat.le_succ _)
 ·next hd=>
  have hd:st.dead=false:=by simpa using hd
  split
  ·exact h.mono (Nat.le_succ _)
  ·split
   ·simp only
    have h1:=Q9k h.fit hk (Gv l);have hn:=h.n;split
    ·next h0=>
     have e:(Jh o st l).Zc=st.Zc:=by
      have: ∀(L:List Qu) (st:Ja),(Jh o st L).Zc=st.Zc:=by
       intro L;induction L with
       |nil=>intro _;rfl
       |cons r L ih=>intro st;exact ih (E7 o st r)
      exact this l st
     refine ⟨?_,λ_=>?_,?_⟩
     ·show Fit (k+1) (Zj P (Jh o st l).Zc) _ _
      rw [e];exact h1
     ·show _/\Whole (Zj P (Jh o st l).Zc) _ _
      rw [e];exact Q5w h.fit (h.whole hd).2 hk (Gv l) h0
     ·show st.n+1<=5000+(k+1)
      omega
    ·exact ⟨h1,λhh=>(by cases hh),by show st.n<=_;omega⟩
   ·exact h.mono (Nat.le_succ _)
theorem Q9u {w:World} {r:Nat} {ds:Qz} {F:Nat->Prop} (hD:Mr w r ds F) (hds:ds.files=[]):
  Calls Tryz.prog 171 #[.pointer (some ⟨r,0,none⟩)] w λe w'=> ∃a c,e= .returned (.slice a 0 c)/\Kp No w w':=by
 refine (Q1a w r ds F hD).mono ?_;rintro e w' ⟨N,a,c,rfl,_,hp,_,hk⟩;rw [hds,map_nil] at hp;obtain rfl:=hp.eq_nil;exact ⟨a,c,rfl,hk⟩
theorem Qwt {w:World} {x r:Nat} {P:ByteArray} (h:w.heap[x]?=some (.cells #[.pointer (some ⟨r,0,none⟩), .string P, .slice none 0 0, .slice none 0 0, .int .i64 1, .bool false] 190 (0,0))):X5 w x r P st0 (Mer.One x):=
 ⟨.slice none 0 0, .slice none 0 0,[],⟨h,Own.nil _ _ _,Own.nil _ _ _,λ_ h=>(by cases h)⟩,rfl,(λk hk=>by
  rcases hk with h|h|h|⟨_,h,_⟩
  ·exact h
  ·cases h
  ·cases h
  ·cases h),(λk hk=>by
  rw [show k=x from hk];exact Q7 h)⟩
theorem Qcx {w:World} {r:Nat} {P:ByteArray} {ds:Qz} {F:Nat->Prop} (hD:Mr w r ds F) (hds:ds.files=[]) (hP2:P.size<=20):
  Calls Tryz.prog 107 #[.pointer (some ⟨r,0,none⟩), .string (Zj P 0)] w λe w'=> ∃x F' G',e= .returned (.tuple #[.pointer (some ⟨x,0,none⟩), .int .i64 0])/\Ms w' r x (Zj P 0) ds st0 F' G'/\Je F F' w/\(∀k,G' k->w.heap.size<=k)/\Kp F w w':=by
 have hsz:=Kj P;obtain ⟨Q,hQ⟩: ∃Q,Q=Zj P 0:=⟨_,rfl⟩;rw [<-hQ] at hsz⊢;have e1:decide ((Q.size:Int)<1)=false:=by rw [decide_eq_false_iff_not];omega
 have e2:decide ((50:Int)<(Q.size:Int))=false:=by rw [decide_eq_false_iff_not];omega
 have HD:=zz hD;have Qet:=zz hds;obtain ⟨W1,hW1⟩: ∃W,W=w.alloc (.cells #[.pointer (some ⟨r,0,none⟩), .string Q, .slice none 0 0, .slice none 0 0, .int .i64 0, .bool false] 190):=⟨_,rfl⟩;have k1:Kp No w W1:=by rw [hW1];exact zK.alloc _
 obtain ⟨x,hx⟩: ∃x,x=w.heap.size:=⟨_,rfl⟩;have b1:W1.heap[x]?=some (.cells #[.pointer (some ⟨r,0,none⟩), .string Q, .slice none 0 0, .slice none 0 0, .int .i64 0, .bool false] 190 (0,0)):=by rw [hW1,hx];exact heap_alloc_new w _
 have H1:=zz (And.intro k1 b1);have HW:=zz hW1;have HX:=zz hx;clear hD hds hQ hsz hP2 k1 b1 hW1 hx;go_enter Tryz.func107,Tryz.ntmps107
 go_upto_region 4 with fail
 rw [<-HX.out,<-HW.out];go_wp2_with fail
 refine (Q9u (HD.out.Q9 H1.out.1) Qet.out).mono ?_;rintro e w2 ⟨na,nc,rfl,k2⟩;have H2:=zz (And.intro (H1.out.1.Q0 k2) (k2.get H1.out.2 λx=>x));clear k2;go_wp2_with fail
 go_loop [7,9] (λa z=>a= .slice none 0 0/\z= .int .i64 0) (λ_ _=>0)
 case atStart=>exact ⟨rfl,rfl⟩
 case round=>
  obtain ⟨rfl,rfl⟩:=hrel;go_wp2_with fail
  go_loop [11] (λz=>z= .int .i64 0) (λ_=>0)
  case atStart=>rfl
  case round=>
   obtain rfl:=hrel;have c3:w2.cell? ⟨x,3,none⟩=some (.slice none 0 0):=Q4 H2.out.2 3;have c2:w2.cell? ⟨x,2,none⟩=some (.slice none 0 0):=Q4 H2.out.2 2;have c4:w2.cell? ⟨x,4,none⟩=some (.int .i64 0):=Q4 H2.out.2 4;have f4:=Qh H2.out.2 4;have hl:=Q7 H2.out.2;go_wp2_with fail
   go_loop [21] (λz=>z= .int .i64 0) (λ_=>0)
   case atStart=>rfl
   case round=>
    obtain rfl:=hrel;go_wp2_with fail
    obtain ⟨w3,hw3⟩: ∃W,W=w2.setCell ⟨x,4,none⟩ (.int .i64 1):=⟨_,rfl⟩;have k3:Kp (Mer.One x) w2 w3:=by rw [hw3];exact (Kp.refl (Mer.One x) w2).setCell (p:=⟨x,4,none⟩) (.inl (show Mer.One x x from rfl)) _
    have b3:=Ql H2.out.2 4 (.int .i64 1);rw [<-hw3] at b3⊢;go_ret2
    have Qux:=HD.out.lt;have hx:=HX.out
    have Qqh:Kp No w w3:=H2.out.1.trans k3 λi hi e=>by
     have e:i=x:=e;omega
    refine ⟨x,rfl,F,Mer.One x,⟨HD.out.Q9 Qqh,Qwt b3,λk hf e=>?_⟩,λ_ h=> .inl h,λk e=>?_,Kp.Qx Qqh⟩
    ·have:=Qux k hf;have e:k=x:=e;omega
    ·have e:k=x:=e;omega
theorem Bn (P:ByteArray) (hP:P.size<=1000) (n:Nat) (hn:n<1000000) (w:World):
  Calls Tryz.prog 106 #[.string P, .int .i64 (n:Int)] w λe w'=>e= .returned (.string (Zj P n))/\Kp No w w':=by
 have hd:=Q8q n hn w;obtain ⟨D,hD⟩: ∃D:ByteArray,D=⟨(Lib.decDigits n).toArray⟩:=⟨_,rfl⟩;rw [<-hD] at hd
 have hDs:D.size<=7:=by
  have:=Qdg n (Nat.le_of_lt hn);rw [hD];show (Lib.decDigits n).toArray.size<=7
  simpa using this
 have HL:=zz (show (P++D)++(⟨#[46]⟩:ByteArray)=Zj P n from by
  rw [hD];apply ByteArray.ext
  unfold Zj;simp [ByteArray.data_append])
 have HC:=zz hd;clear hd hD;go_enter Tryz.func106,Tryz.ntmps106
 go_wp2_with fail
 refine HC.out.mono ?_;rintro e w1 ⟨rfl,k1⟩;have HK:=zz k1;clear k1;go_wp2_with fail
 go_ret
 exact ⟨congrArg (λs=>Ending.returned (.string s)) HL.out,HK.out⟩
theorem Q5z {w:World} {r:Nat} {s:Qz} {F:Nat->Prop} (hD:Mr w r s F) (name:ByteArray) (hn:Qs s.files name=none):
  Calls Tryz.prog 104 #[.pointer (some ⟨r,0,none⟩), .string name] w λe w'=>e= .returned (.tuple #[.int .i64 0, .int .i64 0])/\Kp No w w':=by
 have hr:=Q3w w r s F hD name;have h2:Oj s.files name=([],7):=by unfold Oj;rw [hn]
 unfold Nd at hr;rw [h2] at hr;have HR:=zz hr;clear hr hD hn h2;go_enter Tryz.func104,Tryz.ntmps104
 go_wp2_with fail
 refine HR.out.mono ?_;rintro e w1 ⟨v,rfl,_,k1,_⟩;have HK:=zz k1;clear k1;go_wp2_with fail
 go_ret2
 exact ⟨rfl,HK.out⟩
theorem Q9t {w:World} {r:Nat} {s:Qz} {F:Nat->Prop} (hD:Mr w r s F) (hds:s.files=[]) (A B C:ByteArray):
  Calls Tryz.prog 105 #[.pointer (some ⟨r,0,none⟩), .string A, .string B, .string C] w λe w'=>e= .returned (.int .i64 0)/\Kp No w w':=by
 have hr:=Q1a w r s F hD;have HR:=zz hr;have Qet:=zz hds;clear hr hD hds;go_enter Tryz.func105,Tryz.ntmps105
 go_wp2_with fail
 refine HR.out.mono ?_;rintro e w1 ⟨N,a,c,rfl,_,hp,_,k1⟩;have hp:=hp;rw [Qet.out,map_nil] at hp;obtain rfl:=hp.eq_nil;have HK:=zz k1;clear k1 hp;simp only [List.length_nil];go_wp2_with fail
 go_loop [10] (λz=>z= .int .i64 0) (λ_=>0)
 case atStart=>rfl
 case round=>
  obtain rfl:=hrel;go_wp2_with fail
  go_ret
  exact ⟨rfl,HK.out⟩
theorem Qqt {w:World} {x r y o:Nat} {P:ByteArray} (hs:w.heap[x]?=some (.cells #[.pointer (some ⟨r,0,none⟩), .string P, .int .i64 (o:Int), .pointer (some ⟨y,0,none⟩), .int .i64 0, .slice none 0 0, .int .i64 0, .int .i64 0,
  .int .i64 0, .int .i64 0, .int .i64 0, .int .i64 0, .int .i64 0, .int .i64 0, .int .i64 0, .int .i64 0, .int .i64 0, .int .i64 0, .int .i64 0, .int .i64 0, .int .i64 0, .int .i64 0, .int .i64 0, .slice none 0 0, .int .i64 0, .bool false] 64 (0,0))):Vo w x r y P o Er none 0 [] none 0 []:=
 ⟨hs,Own.nil _ _ _,⟨λ_ hp=>absurd hp not_mem_nil,nodup_nil,nodup_nil,nodup_nil⟩,⟨Own.nil _ _ _,λ_ hx=>absurd hx not_mem_nil⟩,rfl,rfl⟩
theorem Q11 {x k:Nat} (h:Zg x none 0 [] none 0 [] k):k=x:=by
 rcases h with h|h|⟨p,hp,_⟩|h|⟨x,hx,_⟩
 ·exact h
 ·simp [Value.ownBlock] at h
 ·exact absurd hp not_mem_nil
 ·simp [Value.ownBlock] at h
 ·exact absurd hx not_mem_nil
theorem Q2s (w:World) (r:Nat) (P:ByteArray) (o:Nat) (ds:Qz) (F:Nat->Prop) (hD:Mr w r ds F) (hds:ds.files=[]) (hP1:1<=P.size) (hP2:P.size<=20) (hroom:ds.room<=4194304) (ho:o<5):
  Calls Tryz.prog 51 #[.pointer (some ⟨r,0,none⟩), .string P, .int .i64 (o:Int)] w λe w'=> ∃x y F' G',e= .returned (.tuple #[.pointer (some ⟨x,0,none⟩), .int .i64 0])/\D7 w' x r y P (Zj P 0) o Er none 0 [] none 0 [] ds st0 F' G'/\
   Je F F' w/\(∀k,G' k->w.heap.size<=k)/\w.heap.size<=x/\Kp F w w':=by
 have e1:decide ((P.size:Int)<1)=false:=decide_eq_false (by omega);have e2:decide (20<(P.size:Int))=false:=decide_eq_false (by omega);have e3:decide ((o:Int)<0)=false:=decide_eq_false (by omega);have e4:decide (5<=(o:Int))=false:=decide_eq_false (by omega);have e1':decide (P.size<1)=false:=decide_eq_false (by omega);have e2':decide (20<P.size)=false:=decide_eq_false (by omega);have e4':decide (5<=o)=false:=decide_eq_false (by omega);have HD:=zz hD;have Qet:=zz hds;have Qu9:=zz (And.intro hroom (And.intro hP1 (And.intro hP2 ho)))
 obtain ⟨W1,hW1⟩: ∃W,W=w.alloc (.cells #[.pointer (some ⟨r,0,none⟩), .string P, .int .i64 (o:Int), .pointer none, .int .i64 0, .slice none 0 0, .int .i64 0, .int .i64 0,
  .int .i64 0, .int .i64 0, .int .i64 0, .int .i64 0, .int .i64 0, .int .i64 0, .int .i64 0, .int .i64 0, .int .i64 0, .int .i64 0, .int .i64 0, .int .i64 0, .int .i64 0, .int .i64 0, .int .i64 0, .slice none 0 0, .int .i64 0, .bool false] 64):=⟨_,rfl⟩
 have k1:Kp No w W1:=by rw [hW1];exact zK.alloc _
 obtain ⟨x,hx⟩: ∃x,x=w.heap.size:=⟨_,rfl⟩
 have b1:W1.heap[x]?=some (.cells #[.pointer (some ⟨r,0,none⟩), .string P, .int .i64 (o:Int), .pointer none, .int .i64 0, .slice none 0 0, .int .i64 0, .int .i64 0,
  .int .i64 0, .int .i64 0, .int .i64 0, .int .i64 0, .int .i64 0, .int .i64 0, .int .i64 0, .int .i64 0, .int .i64 0, .int .i64 0, .int .i64 0, .int .i64 0, .int .i64 0, .int .i64 0, .int .i64 0, .slice none 0 0, .int .i64 0, .bool false] 64 (0,0)):=by rw [hW1,hx];exact heap_alloc_new w _
 have HX:=zz hx;have H1:=zz (And.intro k1 b1);have HW:=zz hW1;clear hD hds hroom k1 b1 hW1;go_enter Tryz.func51,Tryz.ntmps51
 go_upto_region 4 with fail
 rw [<-hx,<-HW.out];clear hx;go_wp2_with fail
 refine (Q5z (HD.out.Q9 H1.out.1) _ (by rw [Qet.out];rfl)).mono ?_;rintro e w2 ⟨rfl,k2⟩;have H2:=zz (And.intro (H1.out.1.Q0 k2) (k2.get H1.out.2 λx=>x));have f4:=Qh H2.out.2 4;have c4:w2.cell? ⟨x,4,none⟩=some (.int .i64 0):=Q4 H2.out.2 4;have l2:=Q7 H2.out.2;clear k2;go_upto_region 8 with fail
 obtain ⟨w3,hw3⟩: ∃W,W=w2.setCell ⟨x,4,none⟩ (.int .i64 0):=⟨_,rfl⟩;have k3:Kp (Mer.One x) w2 w3:=by rw [hw3];exact (Kp.refl (Mer.One x) w2).setCell (p:=⟨x,4,none⟩) (.inl (show Mer.One x x from rfl)) _
 have b3:=Ql H2.out.2 4 (.int .i64 0);rw [<-hw3] at b3⊢
 have Qqh:Kp No w w3:=H2.out.1.trans k3 λi hi e=>by
  have:=HX.out;have e:i=x:=e;omega
 have H3:=zz (And.intro Qqh b3);clear f4 c4 l2 hw3 k3 b3 Qqh;go_wp2_with fail
 refine (Bn P (by have:=Qu9.out.2.2.1;omega) 0 (by decide) _).mono ?_;rintro e w4 ⟨rfl,k4⟩;have H4:=zz (And.intro (H3.out.1.Q0 k4) (k4.get H3.out.2 λx=>x));clear k4;obtain ⟨Q,hQ⟩: ∃Q,Q=Zj P 0:=⟨_,rfl⟩;rw [<-hQ];have HQ:=zz hQ;clear hQ;go_wp2_with fail
 refine (Q9t (HD.out.Q9 H4.out.1) Qet.out _ _ _).mono ?_;rintro e w5 ⟨rfl,k5⟩;have H5:=zz (And.intro (H4.out.1.Q0 k5) (k5.get H4.out.2 λx=>x));clear k5;go_wp2_with fail
 refine (Bn P (by have:=Qu9.out.2.2.1;omega) 0 (by decide) _).mono ?_;rintro e w6 ⟨rfl,k6⟩;have H6:=zz (And.intro (H5.out.1.Q0 k6) (k6.get H5.out.2 λx=>x));clear k6;rw [<-HQ.out];have hop:=Qcx (P:=P) (HD.out.Q9 H6.out.1) Qet.out Qu9.out.2.2.1;rw [<-HQ.out] at hop;have Qad:=zz hop;clear hop;go_wp2_with fail
 refine Qad.out.mono ?_;rintro e w7 ⟨y,F1,G1,rfl,Jby,Jbj,Jbl,k7⟩
 have hFx: ¬F x:=λhf=>by
  have:=HD.out.lt x hf;have:=HX.out;omega
 have b7:=k7.get H6.out.2 hFx;have H7:=zz (And.intro Jby (And.intro Jbj (And.intro Jbl k7)));have Cw:=zz b7;have f7:=Qh b7 3;have c7:w7.cell? ⟨x,3,none⟩=some (.pointer none):=Q4 b7 3;have l7:=Q7 b7;clear Jby Jbj Jbl k7 b7 Qad;go_upto_region 12 with fail
 obtain ⟨w8,hw8⟩: ∃W,W=w7.setCell ⟨x,3,none⟩ (.pointer (some ⟨y,0,none⟩)):=⟨_,rfl⟩;have k8:Kp (Mer.One x) w7 w8:=by rw [hw8];exact (Kp.refl (Mer.One x) w7).setCell (p:=⟨x,3,none⟩) (.inl (show Mer.One x x from rfl)) _
 have b8:w8.heap[x]?=some (.cells #[.pointer (some ⟨r,0,none⟩), .string P, .int .i64 (o:Int), .pointer (some ⟨y,0,none⟩), .int .i64 0, .slice none 0 0, .int .i64 0, .int .i64 0,
  .int .i64 0, .int .i64 0, .int .i64 0, .int .i64 0, .int .i64 0, .int .i64 0, .int .i64 0, .int .i64 0, .int .i64 0, .int .i64 0, .int .i64 0, .int .i64 0, .int .i64 0, .int .i64 0, .int .i64 0, .slice none 0 0, .int .i64 0, .bool false] 64 (0,0)):=by
  rw [hw8];exact Ql Cw.out 3 (.pointer (some ⟨y,0,none⟩))
 rw [<-hw8]
 have J8o: ∀k,F1 k->k≠x:=λk hk e=>by
  rcases H7.out.2.1 k hk with h1|h1
  ·exact hFx (e▸h1)
  ·have:=Q7 H6.out.2;omega
 have J8p: ∀k,G1 k->k≠x:=λk hk e=>by
  have h1:=H7.out.2.2.1 k hk;have:=Q7 H6.out.2;omega
 have Q2p:Ms w8 r y Q ds st0 F1 G1:=⟨H7.out.1.disk.keep k8 λk hk e=>J8o k hk e,H7.out.1.log.keep k8 λk hk e=>J8p k hk e,H7.out.1.sep⟩;obtain ⟨sv,ev,E,hRL,hE,_⟩:=Q2p.log;have hE0:E=[]:=List.eq_nil_of_map_eq_nil (show E.map Row.data=[] from hE.symm);subst hE0;obtain ⟨_,ea,ec,rfl,_⟩:=hRL.Qi;have cy:=hRL.cells.2.2.1 w8 zK;have ly:=Q7 hRL.cell;have cx:w8.cell? ⟨x,3,none⟩=some (.pointer (some ⟨y,0,none⟩)):=Q4 b8 3;have lx:=Q7 b8;have hH: ∃x y F' G',Ending.returned (.tuple #[.pointer (some ⟨x,0,none⟩), .int .i64 0])= .returned (.tuple #[.pointer (some ⟨x,0,none⟩), .int .i64 0]):=⟨x,y,F1,G1,rfl⟩
 have HF:=zz (show D7 w8 x r y P (Zj P 0) o Er none 0 [] none 0 [] ds st0 F1 G1/\Je F F1 w/\(∀k,G1 k->w.heap.size<=k)/\w.heap.size<=x/\Kp F w w8 from by
  refine ⟨⟨Qqt b8,HQ.out▸Q2p,λi hi hf=>J8o i hf (Q11 hi),λi hi hf=>J8p i hf (Q11 hi)⟩,λk hk=>?_,λk hk=>?_,Nat.le_of_eq HX.out.symm,?_⟩
  ·rcases H7.out.2.1 k hk with h1|h1
   ·exact .inl h1
   ·have:=H6.out.1.size;exact .inr (by omega)
  ·have h1:=H7.out.2.2.1 k hk;have:=H6.out.1.size;omega
  ·refine ((Kp.Qx H6.out.1).Q0 H7.out.2.2.2).trans k8 λi hi e=>?_;have:=HX.out;have e:i=x:=e;omega)
 clear hH f7 c7 l7 hw8 k8 b8 Q2p hRL hE J8o J8p;go_wp2_with fail
 go_loop [11] (λz=>z= .int .i64 0) (λ_=>0)
 case atStart=>rfl
 case round=>
  obtain rfl:=hrel;go_wp2_with fail
  go_ret2
  exact ⟨x,rfl,y,F1,G1,HF.out⟩
def J46 (w wr:World) (l:List Qu) (j:Nat) (a:Option Addr) (k c:Nat):Prop:=
 k=(Qq l.length++X3 (l.take j)).length/\Mer.Own wr 5 1 (.slice a k c) k (u8s (Qq l.length++X3 (l.take j)))/\(∀g,(Value.slice a k c).ownBlock=some g->w.heap.size<=g)/\Kp No w wr
theorem Qhm (w:World) (a:Option Addr) (cap:Nat) (L:List Qe) (hL:Y1 w a L) (hr: ∀x∈L,Z4 x.r=true) (h64:L.length<=64):
  Calls Tryz.prog 67 #[.slice a L.length cap] w (Qa5 w (Fl (L.map Qe.r))):=by
 obtain ⟨n,hn⟩: ∃n,n=L.length:=⟨_,rfl⟩;obtain ⟨l,hl⟩: ∃l,l=L.map Qe.r:=⟨_,rfl⟩;have hln:l.length=n:=by rw [hl,List.length_map,hn]
 have hrl: ∀r∈l,Z4 r=true:=λr h=>by
  rw [hl] at h;obtain ⟨x,hx,rfl⟩:=List.mem_map.1 h;exact hr x hx
 have hN:=Oi n (by omega) w;have HL:=zz hL;have HR:=zz hr;have HN:=zz hn;have Qnz:=zz (And.intro hl (And.intro hln hrl));have Cx:=zz hN;have hnn:n<=64:=by omega
 have d0:decide ((64:Int)<(n:Int))=false:=decide_eq_false (by omega);have d0':decide (64<n)=false:=decide_eq_false (by omega);rw [<-hn,<-hl];clear hL hr hn hl hln hrl hN h64;go_enter Tryz.func67,Tryz.ntmps67
 go_wp2_with fail
 refine Cx.out.mono ?_;rintro e w0 ⟨b0,c0,rfl,ho0,hf0,hk0⟩
 have HI:=zz (show J46 w w0 l 0 b0 (Qq n).length c0 from by
  unfold J46 X3;rw [List.take_zero,List.flatMap_nil,List.append_nil,Qnz.out.2.1];exact ⟨rfl,ho0,hf0,hk0⟩)
 obtain ⟨k0,hk0'⟩: ∃k,k=(Qq n).length:=⟨_,rfl⟩;rw [<-hk0'] at HI⊢;clear ho0 hf0 hk0 hk0' Cx;go_wp2_with fail
 go_loopw [4,5] (λs4 s5 wr=> ∃(j:Nat) (a':Option Addr) (k c:Nat),j<=n/\s4= .slice a' k c/\s5= .int .i64 (j:Int)/\Hid (J46 w wr l j a' k c)) (λ_ s5 _=>n-(intOf s5).toNat)
 case atStart=>exact ⟨0,b0,k0,c0,Nat.zero_le _,rfl,rfl,HI⟩
 case round=>
  clear HI;obtain ⟨j,a',k,c,hj,rfl,rfl,HI⟩:=hrel;rcases Nat.lt_or_ge j n with hlt|hge
  ·have Lm:j<L.length:=by have:=HN.out;omega
   have hk:=HI.out.2.2.2;obtain ⟨g,off,rfl,hgl,hgr⟩:=Jx HL.out.1 Lm;have hxr:=HL.out.2 L[j] (List.getElem_mem Lm);have hxi:=HR.out L[j] (List.getElem_mem Lm)
   have hst:l.take (j+1)=l.take j++[L[j].r]:=by
    rw [Qnz.out.1,List.take_succ_eq_append_getElem (by rw [List.length_map];exact Lm),List.getElem_map]
   obtain ⟨x,hx⟩: ∃x,x=L[j]:=⟨_,rfl⟩;rw [<-hx] at hgr hxr hxi hst;have R1:=zz (hgr wr hk);have hg3:=hk.lt hgl;have Qny:=zz (Qnm wr x (Qm.X0 hxr hk) hxi);have HST:=zz (And.intro hst hxi);clear hgr hxr hxi hst hx hgl Lm hk;go_upto_region 8 with (refine Qj rfl 46 _ rfl g (off+j*9) rfl _ _ R1 Tryz.underlying46 rfl (by kernel_rfl) ?_)
   refine Qny.out.mono ?_;rintro e w1 ⟨ea,ec,rfl,ho1,hf1,hk1⟩;have hrl:=Vv HST.out.2;have Qoj:=zz (Gb w1 ea ec (Vl x.r) (Own.rd' ho1) (by omega));have Yq:=zz (HI.out.2.2.2.Q0 hk1);have Qyx:=zz (HI.out.2.1.keep hk1 λ_ _ x=>x);have Qzc:=zz hrl;obtain ⟨le,hle⟩: ∃le,le=(Vl x.r).length:=⟨_,rfl⟩;rw [<-hle] at Qoj⊢;clear ho1 hf1 hk1 hrl hle Qny;go_wp2_with fail
   refine Qoj.out.mono ?_;rintro e w2 ⟨fa,fc,rfl,ho2,hf2,hk2⟩;have hlb:=Um (p:=Vl x.r) (by have:=Qzc.out;omega)
   have Jc5:(Qq l.length++X3 (l.take j)).length<=80000:=by
    have h1:=Ea (l:=l.take j) λr hr=>Qnz.out.2.2 r (List.mem_of_mem_take hr);have h2:=J4 (n:=l.length) (by have:=Qnz.out.2.1;omega);have h3:=List.length_take_le' j l;have h4:=Qnz.out.2.1;rw [List.length_append];omega
   obtain ⟨aG,cG,w3,h1,h2,h3,h4⟩:=Yb w w2 (.slice a' k c) (Qq l.length++X3 (l.take j)) (Jn (Vl x.r)) (by
    have:=Qyx.out.keep hk2 λ_ _ x=>x;rw [<-HI.out.1];exact this) HI.out.2.2.1 (Yq.out.Q0 hk2) fa fc (Own.rd' ho2) (by have:=Qzc.out;omega)
   have e1:(Qq l.length++X3 (l.take j))++Jn (Vl x.r)=Qq l.length++X3 (l.take (j+1)):=by
    rw [HST.out.1];unfold X3;rw [List.flatMap_append,List.flatMap_cons,List.flatMap_nil,List.append_nil,List.append_assoc]
   rw [e1] at h1 h2 h3;obtain ⟨k2,I9⟩: ∃k,k=(Qq l.length++X3 (l.take (j+1))).length:=⟨_,rfl⟩;rw [<-I9] at h1 h2 h3;obtain ⟨lb,J1n⟩: ∃k,k=(Jn (Vl x.r)).length:=⟨_,rfl⟩;rw [<-J1n] at h1⊢;have HX:=zz h1;have Y4:=zz (show J46 w w3 l (j+1) aG k2 cG from ⟨I9,h2,h3,h4⟩);clear ho2 hf2 hk2 hlb Jc5 e1 h1 h2 h3 h4 I9 J1n Qoj;go_wp2_with (at_builtin;refine wpList_append_run rfl rfl rfl rfl HX.out ?_;clear HX)
   go_roundw
   case rel=>exact ⟨j+1,aG,k2,cG,hlt,rfl,by go_num,Y4⟩
   case measure=>simp [intOf];omega
  ·obtain rfl:n=j:=by omega
   have HE:=zz (show Qa5 w (Fl l) (.returned (.tuple #[.slice a' k c, .int .i64 0])) wr from by
    obtain ⟨h1,h2,h3,h4⟩:=HI.out
    have e:Qq l.length++X3 (l.take n)=Fl l:=by
     rw [List.take_of_length_le (by rw [Qnz.out.2.1];exact Nat.le_refl _)];rfl
    rw [e] at h1 h2;rw [h1] at h2 h3⊢;exact ⟨a',c,rfl,h2,h3,h4⟩)
   clear hge;go_wp2_with fail
   go_ret2
   exact HE.out
end Go.Proofs.YtgnkmjeoaoongaaGreatDoor
