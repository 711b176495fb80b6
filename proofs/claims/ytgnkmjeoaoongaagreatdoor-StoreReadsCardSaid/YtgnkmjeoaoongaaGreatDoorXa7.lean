/-
  DiskApi, DiskCrash.
-/
import Derived.Test.YtgnkmjeoaoongaaGreatDoorXa4
import Derived.Test.YtgnkmjeoaoongaaGreatDoorXa5
set_option maxHeartbeats 400000
namespace Go.Proofs.YtgnkmjeoaoongaaGreatDoor
open Go.RowKit Go.Mer
def five (s:Qu) (ns:List ByteArray) (code:Int) (fs:Jo):Int×Qu:=
 if s.Zg=some 0 then (9,s) else if ns.all Jh=true then (if code=0 then (0,{s with Zg:=s.Zg.map (· - 1),files:=fs}) else (code,s)) else (1,s)
def Qf0 (w:World) (d:Nat) (F:Nat->Prop) (r:Int×Qu) (e:Ending) (w':World):Prop:=
 e= .returned (.int .i64 r.1)/\ ∃F',Zd w' d r.2 F'/\Qv F F' w/\Kp F w w'
theorem Q12 {fused:Bool} {left:Int} (h0:0<=left):B3 fused left=some 0↔fused=true/\left=0:=by
 unfold B3;cases fused
 ·simp
 ·simp;omega
theorem Q13 (w:World) (d m:Nat) (fused:Bool) (left:Int) (L:Zu) (s:Qu) (F:Nat->Prop) (hD:Z1 w d m s.room fused left L) (hf:s.Zg=B3 fused left) (hs:s.files=Zk L)
  (hF: ∀k,FP d m L k->F k) (Qdu: ∀k,F k->k<w.heap.size)
  (k:FuncId) (hcf: ∀args w,(callFunc k args).run Tryz.prog w= .ok (.enter k args) w) (na:Option Addr) (nc:Nat) (ns:List ByteArray) (N:Int) (pv:Value)
  (hns:Rd w w.heap.size na (ns.map Value.string)) (hnl:ns.length<=1000) (code:Int) (fs:Jo)
  (hk:ns.all Jh=true-> ∀w1,Kp No w w1->Calls Tryz.prog k #[.pointer (some ⟨d,0,none⟩), .agg #[.slice na ns.length nc, .int .i64 N,pv]] w1 λe w2=>
   e= .returned (.int .i64 code)/\ ∃L',Z1 w2 d m s.room fused left L'/\Zk L'=(if code=0 then fs else Zk L)/\Qv (FP d m L) (FP d m L') w1/\Kp (FP d m L) w1 w2):
  Calls Tryz.prog 153 #[.pointer (some ⟨d,0,none⟩), .func (.func k) #[.pointer (some ⟨d,0,none⟩)] #[], .agg #[.slice na ns.length nc, .int .i64 N,pv]] w (Qf0 w d F (five s ns code fs)):=by
 have hsame: ∀w',Kp No w w'-> ∃F',Zd w' d s F'/\Qv F F' w/\Kp F w w':=λw' h=>
  ⟨F,⟨m,fused,left,L,hD.Q5 h,hf,hs,hF,λk hk=>h.lt (Qdu k hk)⟩,Qv.refl _ _,Kp.of_no h⟩
 by_cases h0:s.Zg=some 0
 ·have h1:=h0;rw [hf] at h1;obtain ⟨rfl,rfl⟩:=(Q12 hD.left0).1 h1;refine (Qbs d s.room (.map (some m)) _ _ w ⟨_,_,_,rfl⟩ hD.cell).mono λe w' ⟨he,hw⟩=>?_;have e5:five s ns code fs=(9,s):=by simp [five,h0]
  rw [e5];exact ⟨he,hsame w' hw⟩
 ·have hpos:fused=false\/0<left:=by
   cases fused
   ·exact .inl rfl
   ·right
    have:=hD.left0;have h1: ¬(left=0):=λe=>h0 (by rw [hf];exact (Q12 hD.left0).2 ⟨rfl,e⟩);omega
  by_cases hn:ns.all Jh=true
  ·refine (Qbt d k s.room left (.map (some m)) fused hpos hD.Mq na nc ns N pv w hD.cell hns hnl (by simpa using hn)
    (λr w2=>r=code/\ ∃L',Z1 w2 d m s.room fused left L'/\Zk L'=(if code=0 then fs else Zk L)/\Qv (FP d m L) (FP d m L') w/\Kp (FP d m L) w w2)
    (λr w2 ⟨_,L',h,_⟩=>⟨_,_,h.cell⟩) hcf (λw1 hw1=>(hk hn w1 hw1).mono λe w2 ⟨he,L',h1,h2,h3,h4⟩=>⟨code,he,rfl,L',h1,h2,λi hi=>(h3 i hi).imp id λh=>Nat.le_trans hw1.size h,(Kp.of_no hw1).trans_same h4⟩)).mono ?_
   rintro e w' ⟨r,w2,⟨rfl,L',h1,h2,h3,h4⟩,rfl,rfl⟩;have J0l:Kp F w w2:=h4.mono λi _ hi=>hF i hi;have J0m:Qv F (λi=>FP d m L' i) w:=λi hi=>(h3 i hi).imp (hF i) id;by_cases hc:r=0
   ·subst hc;have e5:five s ns 0 fs=(0,{s with Zg:=s.Zg.map (· - 1),files:=fs}):=by simp [five,h0,hn]
    rw [e5];rw [if_pos rfl] at h2;cases fused
    ·refine ⟨rfl,λi=>FP d m L' i,⟨m,false,left,L',?_,?_,h2.symm,λ_ h=>h,λi hi=>?_⟩,J0m,?_⟩
     ·simpa using h1
     ·rw [hf];rfl
     ·have:=h1.lt i hi;simpa using this
     ·simpa using J0l
    ·have hl:0<left:=hpos.resolve_left (by simp);rw [if_pos ⟨rfl,rfl⟩];have hset:Kp (One d) w2 (w2.setCell ⟨d,3,none⟩ (.int .i64 (left-1))):=(Kp.refl (One d) _).setCell (p:=⟨d,3,none⟩) (.inl rfl) _;refine ⟨rfl,λi=>FP d m L' i,⟨m,true,left-1,L',h1.Qmo true (left-1) (by omega) (by have:=h1.Mq;omega) hset ?_,?_,h2.symm,λ_ h=>h,λi hi=>?_⟩,J0m,?_⟩
     ·have:=Qh h1.cell 3 (.int .i64 (left-1));simpa using this
     ·rw [hf];simp [B3]
     ·exact hset.lt (h1.lt i hi)
     ·exact J0l.trans hset λi _ hi=>hF i (by rw [show i=d from hi];exact .inl rfl)
   ·have e5:five s ns r fs=(r,s):=by simp [five,h0,hn,hc]
    rw [e5];rw [if_neg hc] at h2;rw [if_neg (λh=>hc h.1)];exact ⟨rfl,λi=>FP d m L' i,⟨m,fused,left,L',h1,hf,by rw [h2];exact hs,λ_ h=>h,λi hi=>h1.lt i hi⟩,J0m,J0l⟩
  ·have hn':ns.all Jh=false:=by simpa using hn
   refine (Qft d s.room left (.map (some m)) _ fused hpos na nc ns N pv w hD.cell hns hnl hn').mono λe w' ⟨he,hw⟩=>?_;have e5:five s ns code fs=(1,s):=by simp [five,h0,hn']
   rw [e5];exact ⟨he,hsame w' hw⟩
theorem De (w:World) (name:ByteArray):Rd (w.alloc (.cells #[.string name] 9)) (w.alloc (.cells #[.string name] 9)).heap.size (some ⟨w.heap.size,0,none⟩) ([name].map Value.string):=
 Rd.row (off:=0) (n:=1) (heap_alloc_new w _) (by simp) (by simp) (Nat.le_refl _)
def Yo (s:Qu) (name:ByteArray) (p:List UInt8):Int:=if s.room<Jl s.files+p.length\/(Qo s.files name=none/\4096<=s.files.length) then 6 else 0
def Z9 (l:Jo) (name:ByteArray) (p:List UInt8):Jo:=
 match Qo l name with
 |some x=>Qt l name ⟨x.data++p,x.lasts⟩
 |none=>Qt l name ⟨p,0⟩
def Lh (s:Qu) (name:ByteArray) (p:List UInt8):Int×Qu:=five s [name] (Yo s name p) (Z9 s.files name p)
theorem Qb9 (w:World) (d:Nat) (s:Qu) (F:Nat->Prop) (hD:Zd w d s F) (name:ByteArray) (pa:Option Addr) (pc:Nat) (p:List UInt8) (hp:Rd w w.heap.size pa (u8s p)) (hpm:p.length<=140737488355328):
  Calls Tryz.prog 187 #[.pointer (some ⟨d,0,none⟩), .string name, .slice pa p.length pc] w (Qf0 w d F (Lh s name p)):=by
 obtain ⟨m,fused,left,L,hC,hf,hs,hF,Qdu⟩:=hD;have h1:Kp No w (w.alloc (.cells #[.string name] 9)):=zK.alloc _;have hcf: ∀args w,(callFunc 235 args).run Tryz.prog w= .ok (.enter 235 args) w:=λargs w=>by simp [go_sem]
 have hg:=Q13 (w.alloc (.cells #[.string name] 9)) d m fused left L s F (hC.Q5 h1) hf hs hF (λk hk=>h1.lt (Qdu k hk)) 235 hcf (some ⟨w.heap.size,0,none⟩) 1 [name] 0 (.slice pa p.length pc)
  (De w name) (by simp) (Yo s name p) (Z9 s.files name p) (by
   intro _ w1 hw1;have Q7z:=(hC.Q5 h1).Q5 hw1;have hp1:=((hp.keep h1 λ_ _ x=>x).keep hw1 λ_ _ x=>x).mono (Nat.le_trans h1.size hw1.size) (Nat.le_refl _);have hn1:=((De w name).keep hw1 λ_ _ x=>x).mono hw1.size (Nat.le_refl _);have hroom:s.files.length=L.length:=by rw [hs];simp [Zk]
   by_cases hr:s.room<Jl (Zk L)+p.length
   ·refine (Q97 w1 d m s.room fused left L Q7z name (some ⟨w.heap.size,0,none⟩) 1 hn1 0 pa pc p hpm hr).mono λe w2 ⟨he,hw⟩=>?_;have e6:Yo s name p=6:=by simp [Yo,hs,hr]
    rw [e6];exact ⟨he,L,Q7z.Q5 hw,rfl,Qv.refl _ _,Kp.of_no hw⟩
   ·cases hc:Qo L name with
    |none=>
     have hga:Qo s.files name=none:=by rw [hs,Vn,hc];rfl
     by_cases Qw8:4096<=L.length
     ·refine (Q98 w1 d m s.room fused left L Q7z name (some ⟨w.heap.size,0,none⟩) 1 hn1 0 pa pc p (by omega) hc Qw8).mono λe w2 ⟨he,hw⟩=>?_;have e6:Yo s name p=6:=by unfold Yo;rw [if_pos (.inr ⟨hga,by omega⟩)]
      rw [e6];exact ⟨he,L,Q7z.Q5 hw,rfl,Qv.refl _ _,Kp.of_no hw⟩
     ·refine (Qdh w1 d m s.room fused left L Q7z name (some ⟨w.heap.size,0,none⟩) 1 hn1 0 pa pc p (by omega) hp1 hc (by omega)).mono λe w2 ⟨he,c,hca,h2,h3,h4⟩=>?_
      have e0:Yo s name p=0:=by
       unfold Yo
       rw [if_neg (by
        rintro (h|⟨_,h⟩)
        ·rw [hs] at h;omega
        ·omega)]
      have ef:Z9 s.files name p=Qt (Zk L) name ⟨p,0⟩:=by unfold Z9;rw [hga,hs]
      rw [e0,ef];exact ⟨he,_,h2,by rw [Gj,hca];rfl,h3,h4⟩
    |some c=>
     have hga:Qo s.files name=some c.abs:=by rw [hs,Vn,hc];rfl
     refine (Q99 w1 d m s.room fused left L Q7z name (some ⟨w.heap.size,0,none⟩) 1 hn1 0 pa pc p (by omega) hp1 c hc).mono λe w2 ⟨he,v,h2,h3,h4⟩=>?_
     have e0:Yo s name p=0:=by
      unfold Yo
      rw [if_neg (by
       rintro (h|⟨h,_⟩)
       ·rw [hs] at h;omega
       ·rw [hga] at h;cases h)]
     have ef:Z9 s.files name p=Qt (Zk L) name ⟨c.data++p,c.lasts⟩:=by unfold Z9;rw [hga,hs];rfl
     rw [e0,ef];exact ⟨he,_,h2,by rw [Gj];rfl,h3,h4⟩)
 have HG:=zz hg;clear hg hp hC hF Qdu hf hs;go_enter Tryz.func187,Tryz.ntmps187
 go_wp2_with fail
 refine (HG.out).mono ?_;rintro e w' ⟨rfl,F',h2,h3,h4⟩;have H2:=zz h2;have H3:=zz h3;have H4:=zz h4;clear h2 h3 h4;go_wp2_with fail
 go_ret
 exact ⟨rfl,F',H2.out,λk hk=>(H3.out k hk).imp id λh=>Nat.le_trans h1.size h,(Kp.of_no h1).trans_same H4.out⟩
def F8 (s:Qu) (name:ByteArray):Int:=if Qo s.files name=none then 7 else 0
def Fs (l:Jo) (name:ByteArray):Jo:=
 match Qo l name with
 |some x=>Qt l name ⟨x.data,x.data.length⟩
 |none=>l
def L8 (s:Qu) (name:ByteArray):Int×Qu:=five s [name] (F8 s name) (Fs s.files name)
theorem Qf3 (w:World) (d:Nat) (s:Qu) (F:Nat->Prop) (hD:Zd w d s F) (name:ByteArray):
  Calls Tryz.prog 161 #[.pointer (some ⟨d,0,none⟩), .string name] w (Qf0 w d F (L8 s name)):=by
 obtain ⟨m,fused,left,L,hC,hf,hs,hF,Qdu⟩:=hD;have h1:Kp No w (w.alloc (.cells #[.string name] 9)):=zK.alloc _;have hcf: ∀args w,(callFunc 214 args).run Tryz.prog w= .ok (.enter 214 args) w:=λargs w=>by simp [go_sem]
 have hg:=Q13 (w.alloc (.cells #[.string name] 9)) d m fused left L s F (hC.Q5 h1) hf hs hF (λk hk=>h1.lt (Qdu k hk)) 214 hcf (some ⟨w.heap.size,0,none⟩) 1 [name] 0 (.slice none 0 0)
  (De w name) (by simp) (F8 s name) (Fs s.files name) (by
   intro _ w1 hw1;have Q7z:=(hC.Q5 h1).Q5 hw1;have hn1:=((De w name).keep hw1 λ_ _ x=>x).mono hw1.size (Nat.le_refl _);cases hc:Qo L name with
   |none=>
    have hga:Qo s.files name=none:=by rw [hs,Vn,hc];rfl
    refine (Qcu w1 d m s.room fused left L Q7z name hc (some ⟨w.heap.size,0,none⟩) 1 hn1 0 (.slice none 0 0)).mono λe w2 ⟨he,hw⟩=>?_;have e7:F8 s name=7:=by unfold F8;rw [if_pos hga]
    rw [e7];exact ⟨he,L,Q7z.Q5 hw,rfl,Qv.refl _ _,Kp.of_no hw⟩
   |some c=>
    have hga:Qo s.files name=some c.abs:=by rw [hs,Vn,hc];rfl
    refine (Qcv w1 d m s.room fused left L Q7z name c hc (some ⟨w.heap.size,0,none⟩) 1 hn1 0 (.slice none 0 0)).mono λe w2 ⟨he,h2,h3,h4⟩=>?_;have e0:F8 s name=0:=by unfold F8;rw [if_neg (by rw [hga];simp)]
    have ef:Fs s.files name=Qt (Zk L) name ⟨c.data,c.data.length⟩:=by unfold Fs;rw [hga,hs];rfl
    rw [e0,ef];exact ⟨he,_,h2,by rw [Gj];rfl,h3,h4⟩)
 have HG:=zz hg;clear hg hC hF Qdu hf hs;go_enter Tryz.func161,Tryz.ntmps161
 go_wp2_with fail
 refine (HG.out).mono ?_;rintro e w' ⟨rfl,F',h2,h3,h4⟩;have H2:=zz h2;have H3:=zz h3;have H4:=zz h4;clear h2 h3 h4;go_wp2_with fail
 go_ret
 exact ⟨rfl,F',H2.out,λk hk=>(H3.out k hk).imp id λh=>Nat.le_trans h1.size h,(Kp.of_no h1).trans_same H4.out⟩
def Dz (l:Jo) (name:ByteArray):List UInt8×Int:=
 match Qo l name with
 |some x=>(x.data,0)
 |none=>([],7)
def Q41 (w:World) (d:Nat) (s:Qu) (F:Nat->Prop) (name:ByteArray) (e:Ending) (w':World):Prop:=
 ∃v,e= .returned (.tuple #[v, .int .i64 (Dz s.files name).2])/\Own w' 5 1 v (Dz s.files name).1.length (u8s (Dz s.files name).1)/\Kp No w w'/\(∀g,v.ownBlock=some g->w.heap.size<=g)/\Zd w' d s F
theorem Qez (w:World) (d:Nat) (s:Qu) (F:Nat->Prop) (hD:Zd w d s F) (name:ByteArray):
  Calls Tryz.prog 145 #[.pointer (some ⟨d,0,none⟩), .string name] w (Q41 w d s F name):=by
 have J3f:=zz hD;obtain ⟨m,fused,left,L,hC,hf,hs,hF,Qdu⟩:=hD;have c1:=Q0 hC.cell 1;have hdl:=Q3 hC.cell;simp at c1
 have hlook:=Q1d hC.map name;rw [show Dl L=L.map λp=>(p.1,p.2.ptr) from rfl,Gh] at hlook;cases hc:Qo L name with
 |none=>
  have hga:Qo s.files name=none:=by rw [hs,Vn,hc];rfl
  rw [hc] at hlook;simp only [Option.map_none,Option.getD_none] at hlook;have HA:=zz hga;clear hga hc hC hf hs hF Qdu;go_enter Tryz.func145,Tryz.ntmps145
  go_wp2_with fail
  go_ret2
  have e7:Dz s.files name=([],7):=by unfold Dz;rw [HA.out]
  refine ⟨.slice none 0 0,?_,?_,Kp.refl _ _,λg h=>by simp [Value.ownBlock] at h,J3f.out⟩
  ·rw [e7];rfl
  ·rw [e7];exact Own.nil _ _ _
 |some c=>
  have hga:Qo s.files name=some c.abs:=by rw [hs,Vn,hc];rfl
  have hfo:=hC.files _ (Qw hc);have hfl:=Q3 hfo.1;have Qpr:=Q0 hfo.1 0;obtain ⟨fa,fc,hv,_,hrd⟩:=hfo.2.1.rd;simp at Qpr
  rw [hv] at Qpr;have hfit:=hC.fits;have hroom:=hC.roomy;have hmem:=Q2w (l:=Zk L) (p:=(name,c.abs)) (List.mem_map.2 ⟨(name,c),Qw hc,rfl⟩);have hlen:c.data.length<=140737488355328:=by simp only [Yj.abs] at hmem;omega
  rw [hc] at hlook;simp only [Option.map_some,Option.getD_some,Yj.ptr] at hlook;have hcl:=D4 fa fc c.data w.heap.size w hrd hlen;have HA:=zz hga;have HL:=zz hcl;clear hga hc hC hf hs hF Qdu hcl hfo hv hrd hfit hroom hmem;go_enter Tryz.func145,Tryz.ntmps145
  go_wp2_with fail
  refine (HL.out).mono ?_;rintro e w' ⟨v,rfl,h1,h2,h3⟩;have H1:=zz h1;have H2:=zz h2;have H3:=zz h3;clear h1 h2 h3;go_wp2_with fail
  go_ret2
  have e0:Dz s.files name=(c.data,0):=by unfold Dz;rw [HA.out];rfl
  refine ⟨v,?_,?_,H2.out,H3.out,J3f.out.Q5 H2.out⟩
  ·rw [e0];rfl
  ·rw [e0];exact H1.out
end Go.Proofs.YtgnkmjeoaoongaaGreatDoor
