/-
  SXOpn0, SXList, SHeavy.
-/
import Derived.Test.YtgnkmjeoaoongaaGreatDoorXe1
import Derived.Test.YtgnkmjeoaoongaaGreatDoorXd8
set_option maxRecDepth 100000
set_option maxHeartbeats 4000000
namespace Go.Proofs.YtgnkmjeoaoongaaGreatDoor
open Go.RowKit Go.Mer
theorem Q6s {w:World} {r:Nat} {ds:Qu} {F:Nat->Prop} (hD:Di w r ds F) (hds:ds.files=[]):
  Calls Tryz.prog 171 #[.pointer (some ⟨r,0,none⟩)] w λe w'=> ∃a c,e= .returned (.slice a 0 c)/\Kp No w w':=by
 refine (A9 w r ds F hD).mono ?_;rintro e w' ⟨N,a,c,rfl,_,hp,_,hk⟩;rw [hds,List.map_nil] at hp;obtain rfl:=hp.eq_nil;exact ⟨a,c,rfl,hk⟩
theorem Qru {w:World} {x r:Nat} {P:ByteArray} (h:w.heap[x]?=some (.cells #[.pointer (some ⟨r,0,none⟩), .string P, .slice none 0 0, .slice none 0 0, .int .i64 1, .bool false] 190 (0,0))):Yl w x r P st0 (Mer.One x):=
 ⟨.slice none 0 0, .slice none 0 0,[],⟨h,Own.nil _ _ _,Own.nil _ _ _,λ_ h=>(by cases h)⟩,rfl,(λk hk=>by
  rcases hk with h|h|h|⟨_,h,_⟩
  ·exact h
  ·cases h
  ·cases h
  ·cases h),(λk hk=>by
  rw [show k=x from hk];exact Q3 h)⟩
theorem Q9d {w:World} {r:Nat} {P:ByteArray} {ds:Qu} {F:Nat->Prop} (hD:Di w r ds F) (hds:ds.files=[]) (hP2:P.size<=20):
  Calls Tryz.prog 107 #[.pointer (some ⟨r,0,none⟩), .string (Zp P 0)] w λe w'=> ∃x F' G',e= .returned (.tuple #[.pointer (some ⟨x,0,none⟩), .int .i64 0])/\N9 w' r x (Zp P 0) ds st0 F' G'/\Qv F F' w/\(∀k,G' k->w.heap.size<=k)/\Kp F w w':=by
 have hsz:=U4 P;obtain ⟨Q,hQ⟩: ∃Q,Q=Zp P 0:=⟨_,rfl⟩;rw [<-hQ] at hsz⊢;have e1:decide ((Q.size:Int)<1)=false:=by rw [decide_eq_false_iff_not];omega
 have e2:decide ((50:Int)<(Q.size:Int))=false:=by rw [decide_eq_false_iff_not];omega
 have HD:=zz hD;have Qay:=zz hds;obtain ⟨W1,hW1⟩: ∃W,W=w.alloc (.cells #[.pointer (some ⟨r,0,none⟩), .string Q, .slice none 0 0, .slice none 0 0, .int .i64 0, .bool false] 190):=⟨_,rfl⟩;have k1:Kp No w W1:=by rw [hW1];exact zK.alloc _
 obtain ⟨x,hx⟩: ∃x,x=w.heap.size:=⟨_,rfl⟩;have b1:W1.heap[x]?=some (.cells #[.pointer (some ⟨r,0,none⟩), .string Q, .slice none 0 0, .slice none 0 0, .int .i64 0, .bool false] 190 (0,0)):=by rw [hW1,hx];exact heap_alloc_new w _
 have H1:=zz (And.intro k1 b1);have HW:=zz hW1;have HX:=zz hx;clear hD hds hQ hsz hP2 k1 b1 hW1 hx;go_enter Tryz.func107,Tryz.ntmps107
 go_upto_region 4 with fail
 rw [<-HX.out,<-HW.out];go_wp2_with fail
 refine (Q6s (HD.out.Q5 H1.out.1) Qay.out).mono ?_;rintro e w2 ⟨na,nc,rfl,k2⟩;have H2:=zz (And.intro (H1.out.1.trans_same k2) (k2.get H1.out.2 λx=>x));clear k2;go_wp2_with fail
 go_loop [7,9] (λa z=>a= .slice none 0 0/\z= .int .i64 0) (λ_ _=>0)
 case atStart=>exact ⟨rfl,rfl⟩
 case round=>
  obtain ⟨rfl,rfl⟩:=hrel;go_wp2_with fail
  go_loop [11] (λz=>z= .int .i64 0) (λ_=>0)
  case atStart=>rfl
  case round=>
   obtain rfl:=hrel;have c3:w2.cell? ⟨x,3,none⟩=some (.slice none 0 0):=Q0 H2.out.2 3;have c2:w2.cell? ⟨x,2,none⟩=some (.slice none 0 0):=Q0 H2.out.2 2;have c4:w2.cell? ⟨x,4,none⟩=some (.int .i64 0):=Q0 H2.out.2 4;have f4:=Qc H2.out.2 4;have hl:=Q3 H2.out.2;go_wp2_with fail
   go_loop [21] (λz=>z= .int .i64 0) (λ_=>0)
   case atStart=>rfl
   case round=>
    obtain rfl:=hrel;go_wp2_with fail
    obtain ⟨w3,hw3⟩: ∃W,W=w2.setCell ⟨x,4,none⟩ (.int .i64 1):=⟨_,rfl⟩;have k3:Kp (Mer.One x) w2 w3:=by rw [hw3];exact (Kp.refl (Mer.One x) w2).setCell (p:=⟨x,4,none⟩) (.inl (show Mer.One x x from rfl)) _
    have b3:=Qh H2.out.2 4 (.int .i64 1);rw [<-hw3] at b3⊢;go_ret2
    have Qq0:=HD.out.lt;have hx:=HX.out
    have Qln:Kp No w w3:=H2.out.1.trans k3 λi hi e=>by
     have e:i=x:=e;omega
    refine ⟨x,rfl,F,Mer.One x,⟨HD.out.Q5 Qln,Qru b3,λk hf e=>?_⟩,λ_ h=> .inl h,λk e=>?_,Kp.of_no Qln⟩
    ·have:=Qq0 k hf;have e:k=x:=e;omega
    ·have e:k=x:=e;omega
def Qxz (w wr:World) (l:List Qx) (j:Nat) (a:Option Addr) (k c:Nat):Prop:=
 k=(Ql l.length++Vb (l.take j)).length/\Mer.Own wr 5 1 (.slice a k c) k (u8s (Ql l.length++Vb (l.take j)))/\(∀g,(Value.slice a k c).ownBlock=some g->w.heap.size<=g)/\Kp No w wr
theorem Qdj (w:World) (a:Option Addr) (cap:Nat) (L:List Qa) (hL:V2 w a L) (hr: ∀x∈L,Jv x.r=true) (h64:L.length<=64):
  Calls Tryz.prog 67 #[.slice a L.length cap] w (Q73 w (Eu (L.map Qa.r))):=by
 obtain ⟨n,hn⟩: ∃n,n=L.length:=⟨_,rfl⟩;obtain ⟨l,hl⟩: ∃l,l=L.map Qa.r:=⟨_,rfl⟩;have hln:l.length=n:=by rw [hl,List.length_map,hn]
 have hrl: ∀r∈l,Jv r=true:=λr h=>by
  rw [hl] at h;obtain ⟨x,hx,rfl⟩:=List.mem_map.1 h;exact hr x hx
 have hN:=Kf n (by omega) w;have HL:=zz hL;have HR:=zz hr;have HN:=zz hn;have Qj8:=zz (And.intro hl (And.intro hln hrl));have Dt:=zz hN;have hnn:n<=64:=by omega
 have d0:decide ((64:Int)<(n:Int))=false:=decide_eq_false (by omega);have d0':decide (64<n)=false:=decide_eq_false (by omega);rw [<-hn,<-hl];clear hL hr hn hl hln hrl hN h64;go_enter Tryz.func67,Tryz.ntmps67
 go_wp2_with fail
 refine Dt.out.mono ?_;rintro e w0 ⟨b0,c0,rfl,ho0,hf0,hk0⟩
 have HI:=zz (show Qxz w w0 l 0 b0 (Ql n).length c0 from by
  unfold Qxz Vb;rw [List.take_zero,List.flatMap_nil,List.append_nil,Qj8.out.2.1];exact ⟨rfl,ho0,hf0,hk0⟩)
 obtain ⟨k0,hk0'⟩: ∃k,k=(Ql n).length:=⟨_,rfl⟩;rw [<-hk0'] at HI⊢;clear ho0 hf0 hk0 hk0' Dt;go_wp2_with fail
 go_loopw [4,5] (λs4 s5 wr=> ∃(j:Nat) (a':Option Addr) (k c:Nat),j<=n/\s4= .slice a' k c/\s5= .int .i64 (j:Int)/\Hid (Qxz w wr l j a' k c)) (λ_ s5 _=>n-(intOf s5).toNat)
 case atStart=>exact ⟨0,b0,k0,c0,Nat.zero_le _,rfl,rfl,HI⟩
 case round=>
  clear HI;obtain ⟨j,a',k,c,hj,rfl,rfl,HI⟩:=hrel;rcases Nat.lt_or_ge j n with hlt|hge
  ·have He:j<L.length:=by have:=HN.out;omega
   have hk:=HI.out.2.2.2;obtain ⟨g,off,rfl,hgl,hgr⟩:=Yr HL.out.1 He;have hxr:=HL.out.2 L[j] (List.getElem_mem He);have hxi:=HR.out L[j] (List.getElem_mem He)
   have hst:l.take (j+1)=l.take j++[L[j].r]:=by
    rw [Qj8.out.1,List.take_succ_eq_append_getElem (by rw [List.length_map];exact He),List.getElem_map]
   obtain ⟨x,hx⟩: ∃x,x=L[j]:=⟨_,rfl⟩;rw [<-hx] at hgr hxr hxi hst;have R1:=zz (hgr wr hk);have hg3:=hk.lt hgl;have Qj4:=zz (Qis wr x (Qd.Fg hxr hk) hxi);have HST:=zz (And.intro hst hxi);clear hgr hxr hxi hst hx hgl He hk;go_upto_region 8 with (refine Qe rfl 46 _ rfl g (off+j*9) rfl _ _ R1 Tryz.underlying46 rfl (by kernel_rfl) ?_)
   refine Qj4.out.mono ?_;rintro e w1 ⟨ea,ec,rfl,ho1,hf1,hk1⟩;have hrl:=Uo HST.out.2;have Qjq:=zz (Eg w1 ea ec (U6 x.r) (Own.rd' ho1) (by omega));have U8:=zz (HI.out.2.2.2.trans_same hk1);have Qtk:=zz (HI.out.2.1.keep hk1 λ_ _ x=>x);have Qtu:=zz hrl;obtain ⟨le,hle⟩: ∃le,le=(U6 x.r).length:=⟨_,rfl⟩;rw [<-hle] at Qjq⊢;clear ho1 hf1 hk1 hrl hle Qj4;go_wp2_with fail
   refine Qjq.out.mono ?_;rintro e w2 ⟨fa,fc,rfl,ho2,hf2,hk2⟩;have hlb:=Vy (p:=U6 x.r) (by have:=Qtu.out;omega)
   have J5h:(Ql l.length++Vb (l.take j)).length<=80000:=by
    have h1:=Kg (l:=l.take j) λr hr=>Qj8.out.2.2 r (List.mem_of_mem_take hr);have h2:=Qm (n:=l.length) (by have:=Qj8.out.2.1;omega);have h3:=List.length_take_le' j l;have h4:=Qj8.out.2.1;rw [List.length_append];omega
   obtain ⟨aG,cG,w3,h1,h2,h3,h4⟩:=Zq w w2 (.slice a' k c) (Ql l.length++Vb (l.take j)) (Jg (U6 x.r)) (by
    have:=Qtk.out.keep hk2 λ_ _ x=>x;rw [<-HI.out.1];exact this) HI.out.2.2.1 (U8.out.trans_same hk2) fa fc (Own.rd' ho2) (by have:=Qtu.out;omega)
   have e1:(Ql l.length++Vb (l.take j))++Jg (U6 x.r)=Ql l.length++Vb (l.take (j+1)):=by
    rw [HST.out.1];unfold Vb;rw [List.flatMap_append,List.flatMap_cons,List.flatMap_nil,List.append_nil,List.append_assoc]
   rw [e1] at h1 h2 h3;obtain ⟨k2,Mn⟩: ∃k,k=(Ql l.length++Vb (l.take (j+1))).length:=⟨_,rfl⟩;rw [<-Mn] at h1 h2 h3;obtain ⟨lb,Qvz⟩: ∃k,k=(Jg (U6 x.r)).length:=⟨_,rfl⟩;rw [<-Qvz] at h1⊢;have HX:=zz h1;have Yz:=zz (show Qxz w w3 l (j+1) aG k2 cG from ⟨Mn,h2,h3,h4⟩);clear ho2 hf2 hk2 hlb J5h e1 h1 h2 h3 h4 Mn Qvz Qjq;go_wp2_with (at_builtin;refine wpList_append_run rfl rfl rfl rfl HX.out ?_;clear HX)
   go_roundw
   case rel=>exact ⟨j+1,aG,k2,cG,hlt,rfl,by go_num,Yz⟩
   case measure=>simp [intOf];omega
  ·obtain rfl:n=j:=by omega
   have HE:=zz (show Q73 w (Eu l) (.returned (.tuple #[.slice a' k c, .int .i64 0])) wr from by
    obtain ⟨h1,h2,h3,h4⟩:=HI.out
    have e:Ql l.length++Vb (l.take n)=Eu l:=by
     rw [List.take_of_length_le (by rw [Qj8.out.2.1];exact Nat.le_refl _)];rfl
    rw [e] at h1 h2;rw [h1] at h2 h3⊢;exact ⟨a',c,rfl,h2,h3,h4⟩)
   clear hge;go_wp2_with fail
   go_ret2
   exact HE.out
def Q42 (x:RowR):Prop:=x.r.key.size<=12000/\x.r.val.length<=12000
def J7k (w:World) (L:List RowR) (e:Ending) (w':World):Prop:= ∃b:Bool,e= .returned (.bool b)/\(b=false->(∀x∈L,Q42 x)/\L.length<=600)/\Kp No w w'
theorem Q87 (w:World) (b:Nat) (ra:Option Addr) (rc:Nat) (L:List RowR) (hc:w.heap[b]?=some (.cells #[.int .i64 0, .int .i64 0, .int .u8 0, .int .i64 0, .int .i64 0, .slice ra L.length rc, .slice none 0 0] 28 (0,0))) (h:RowsIn w ra L) (hl:L.length<=140737488351232):
  Calls Tryz.prog 13 #[.slice (some ⟨b,0,none⟩) 1 1] w (J7k w L):=by
 obtain ⟨n,hn⟩: ∃n,n=L.length:=⟨_,rfl⟩;rw [<-hn] at hc;have HA:=zz h;have HC:=zz hc;have HN:=zz hn;have hnb:n<=140737488351232:=by omega
 clear h hc hn hl;go_enter Tryz.func13,Tryz.ntmps13
 go_wp2_with fail
 rename World=>w0;go_loopw [3,4] (λs i wr=>Hid (Kp No w0 wr)/\((s= .int .i64 0/\i= .int .i64 0)\/ ∃N:Nat,N<=12000/\i= .int .i64 1/\s= .int .i64 (N:Int)/\Hid ((∀x∈L,Q42 x)/\L.length<=600))) (λ_ i _=>1-(intOf i).toNat)
 case atStart=>exact ⟨zz zK, .inl ⟨rfl,rfl⟩⟩
 case round=>
  obtain ⟨Dp,h1|⟨N,hN,rfl,rfl,HL⟩⟩:=hrel
  ·obtain ⟨rfl,rfl⟩:=h1;go_wp2_with fail
   go_loopw [3,5] (λs i wx=> ∃j M:Nat,j<=n/\M<=12000/\20*j<=M/\i= .int .i64 (j:Int)/\s= .int .i64 (M:Int)/\Hid (∀x∈L.take j,Q42 x)/\Hid (Kp No w0 wx)) (λ_ i _=>n-(intOf i).toNat)
   case atStart=>exact ⟨0,10,Nat.zero_le _,by decide,by decide,rfl,rfl,zz (by simp),Dp⟩
   case round=>
    clear Dp;obtain ⟨j,M,hj,hM,Jaq,rfl,rfl,HP,HK⟩:=hrel;have c5:wr.cell? ⟨b,5,none⟩=some (.slice ra n rc):=Q0 (HK.out.get HC.out λx=>x) 5;have hbl:=Q3 (HK.out.get HC.out λx=>x);by_cases hlt:j<n
    ·have He:j<L.length:=by have:=HN.out;omega
     obtain ⟨g,off,rfl,l0⟩:=Ye (f:=rwC) rwC_len (by decide) HA.out.1 He;have HE:=zz (List.take_succ_eq_append_getElem He);have hsz:=HA.out.2 _ (List.getElem_mem He);obtain ⟨x,hx⟩: ∃x,x=L[j]:=⟨_,rfl⟩;rw [<-hx] at l0 HE hsz;obtain ⟨⟨o,af,key,val,gone,ttl⟩,va,vc⟩:=x;have t2:wr.cell? ⟨g,off+j*6+2,none⟩=some (.string key):=l0 wr HK.out 2 _ rfl;have t3:wr.cell? ⟨g,off+j*6+3,none⟩=some (.slice va val.length vc):=l0 wr HK.out 3 _ rfl;have z1:key.size<=140737488351232:=hsz.key;have z2:val.length<=140737488351232:=Nat.le_trans hsz.le hsz.cap;obtain ⟨vl,hvl⟩: ∃k,k=val.length:=⟨_,rfl⟩;rw [<-hvl] at t3 z2;have J7d:=zz hvl;clear hx l0 hsz hvl;obtain ⟨M1,hM1⟩: ∃M1,M1=M+20+key.size+vl:=⟨_,rfl⟩;have Qv1:(M:Int)+20+key.size+vl=(M1:Int):=by rw [hM1];push_cast;rfl
     have Qxt:=zz hM1;clear hM1;go_wp2_with fail
     refine zE [0,0,0,0,0,0,1,0,0,0,1,1,0,0,0,0,0,1,0,0,0,1,1,0,0] [0,1,2,3,4,5,7,13,14,15,16,18,6,8,9,10,11,12,17,19,20,21,22,23,24] ?_;repeat (first|refine zA ?_|refine zB ?_|refine zC ?_)
     refine Q6 (λnq=>?_)
     (try rw [Qv1])
     clear Qv1;have Ox:=zz (HK.out.drewN nq);clear t2 t3 c5;rcases Nat.lt_or_ge 12000 M1 with hh|hh
     ·go_wp2_with fail
      go_ret
      exact ⟨true,rfl,(λh=>by cases h),Ox.out⟩
     ·have hsm:key.size<=12000/\val.length<=12000:=by have:=Qxt.out;have:=J7d.out;omega
      have J18:20*(j+1)<=M1:=by have:=Qxt.out;omega
      have HP2:Hid (∀x∈L.take (j+1),Q42 x):=zz λx hx=>by
       rw [HE.out,List.mem_append,List.mem_singleton] at hx;rcases hx with hx|rfl
       ·exact HP.out x hx
       ·exact hsm
      clear hsm;go_wp2_with fail
      go_roundw
      case rel=>exact ⟨j+1,M1,by omega,hh,J18,by go_num,by go_num,HP2,Ox⟩
      case measure=>simp [intOf];omega
    ·obtain rfl:j=n:=by omega
     clear hlt;have Qp3:Hid ((∀x∈L,Q42 x)/\L.length<=600):=zz ⟨λx hx=>HP.out x (by rw [HN.out,List.take_length];exact hx),by rw [<-HN.out];omega⟩;have c6:wr.cell? ⟨b,6,none⟩=some (.slice none 0 0):=Q0 (HK.out.get HC.out λx=>x) 6;go_wp2_with fail
     go_loop [3,6] (λs z=>s= .int .i64 (M:Int)/\z= .int .i64 0) (λ_ _=>0)
     case atStart=>exact ⟨rfl,rfl⟩
     case round=>
      obtain ⟨rfl,rfl⟩:=hrel;go_wp2_with fail
      go_roundw
      case rel=>exact ⟨HK, .inr ⟨M,hM,rfl,rfl,Qp3⟩⟩
      case measure=>simp [intOf]
  ·go_wp2_with fail
   go_ret
   exact ⟨false,rfl,λ_=>HL.out,Dp.out⟩
end Go.Proofs.YtgnkmjeoaoongaaGreatDoor
