/-
  DiskApi, DiskSame, DiskMove, DiskCrash.
-/
import Derived.Test.YtgnkmjeoaoongaaGreatDoorVa3
import Derived.Test.YtgnkmjeoaoongaaGreatDoorVa4
set_option maxHeartbeats 400000
namespace Go.Proofs.YtgnkmjeoaoongaaGreatDoor
open Go.RowKit Go.Mer
def five (s:Qz) (ns:List ByteArray) (code:Int) (fs:Jl):Int×Qz:=
 if s.Jo=some 0 then (9,s) else if ns.all Jq=true then (if code=0 then (0,{s with Jo:=s.Jo.map (· - 1),files:=fs}) else (code,s)) else (1,s)
def Qj0 (w:World) (d:Nat) (F:Nat->Prop) (r:Int×Qz) (e:Ending) (w':World):Prop:=
 e= .returned (.int .i64 r.1)/\ ∃F',Zd w' d r.2 F'/\Je F F' w/\Kp F w w'
theorem Q3a {fused:Bool} {left:Int} (h0:0<=left):Dq fused left=some 0↔fused=true/\left=0:=by
 unfold Dq;cases fused
 ·simp
 ·simp;omega
theorem Q3b (w:World) (d m:Nat) (fused:Bool) (left:Int) (L:Ye) (s:Qz) (F:Nat->Prop) (hD:Ze w d m s.room fused left L) (hf:s.Jo=Dq fused left) (hs:s.files=Zy L)
  (hF: ∀k,FP d m L k->F k) (Qb9: ∀k,F k->k<w.heap.size)
  (k:FuncId) (hcf: ∀args w,(callFunc k args).run Tryz.prog w= .ok (.enter k args) w) (na:Option Addr) (nc:Nat) (ns:List ByteArray) (N:Int) (pv:Value)
  (hns:Rd w w.heap.size na (ns.map Value.string)) (hnl:ns.length<=1000) (code:Int) (fs:Jl)
  (hk:ns.all Jq=true-> ∀w1,Kp No w w1->Calls Tryz.prog k #[.pointer (some ⟨d,0,none⟩), .agg #[.slice na ns.length nc, .int .i64 N,pv]] w1 λe w2=>
   e= .returned (.int .i64 code)/\ ∃L',Ze w2 d m s.room fused left L'/\Zy L'=(if code=0 then fs else Zy L)/\Je (FP d m L) (FP d m L') w1/\Kp (FP d m L) w1 w2):
  Calls Tryz.prog 153 #[.pointer (some ⟨d,0,none⟩), .func (.func k) #[.pointer (some ⟨d,0,none⟩)] #[], .agg #[.slice na ns.length nc, .int .i64 N,pv]] w (Qj0 w d F (five s ns code fs)):=by
 have hsame: ∀w',Kp No w w'-> ∃F',Zd w' d s F'/\Je F F' w/\Kp F w w':=λw' h=>
  ⟨F,⟨m,fused,left,L,hD.Q9 h,hf,hs,hF,λk hk=>h.lt (Qb9 k hk)⟩,Je.refl _ _,Kp.Qx h⟩
 by_cases h0:s.Jo=some 0
 ·have h1:=h0;rw [hf] at h1;obtain ⟨rfl,rfl⟩:=(Q3a hD.left0).1 h1;refine (Qfq d s.room (.map (some m)) _ _ w ⟨_,_,_,rfl⟩ hD.cell).mono λe w' ⟨he,hw⟩=>?_;have e5:five s ns code fs=(9,s):=by simp [five,h0]
  rw [e5];exact ⟨he,hsame w' hw⟩
 ·have hpos:fused=false\/0<left:=by
   cases fused
   ·exact .inl rfl
   ·right
    have:=hD.left0;have h1: ¬(left=0):=λe=>h0 (by rw [hf];exact (Q3a hD.left0).2 ⟨rfl,e⟩);omega
  by_cases hn:ns.all Jq=true
  ·refine (Qfr d k s.room left (.map (some m)) fused hpos hD.Ii na nc ns N pv w hD.cell hns hnl (by simpa using hn)
    (λr w2=>r=code/\ ∃L',Ze w2 d m s.room fused left L'/\Zy L'=(if code=0 then fs else Zy L)/\Je (FP d m L) (FP d m L') w/\Kp (FP d m L) w w2)
    (λr w2 ⟨_,L',h,_⟩=>⟨_,_,h.cell⟩) hcf (λw1 hw1=>(hk hn w1 hw1).mono λe w2 ⟨he,L',h1,h2,h3,h4⟩=>⟨code,he,rfl,L',h1,h2,λi hi=>(h3 i hi).imp id λh=>Nat.le_trans hw1.size h,(Kp.Qx hw1).Q0 h4⟩)).mono ?_
   rintro e w' ⟨r,w2,⟨rfl,L',h1,h2,h3,h4⟩,rfl,rfl⟩;have J71:Kp F w w2:=h4.mono λi _ hi=>hF i hi;have J72:Je F (λi=>FP d m L' i) w:=λi hi=>(h3 i hi).imp (hF i) id;by_cases hc:r=0
   ·subst hc;have e5:five s ns 0 fs=(0,{s with Jo:=s.Jo.map (· - 1),files:=fs}):=by simp [five,h0,hn]
    rw [e5];rw [if_pos rfl] at h2;cases fused
    ·refine ⟨rfl,λi=>FP d m L' i,⟨m,false,left,L',?_,?_,h2.symm,λ_ h=>h,λi hi=>?_⟩,J72,?_⟩
     ·simpa using h1
     ·rw [hf];rfl
     ·have:=h1.lt i hi;simpa using this
     ·simpa using J71
    ·have hl:0<left:=hpos.resolve_left (by simp);rw [if_pos ⟨rfl,rfl⟩];have hset:Kp (One d) w2 (w2.setCell ⟨d,3,none⟩ (.int .i64 (left-1))):=(Kp.refl (One d) _).setCell (p:=⟨d,3,none⟩) (.inl rfl) _;refine ⟨rfl,λi=>FP d m L' i,⟨m,true,left-1,L',h1.Qef true (left-1) (by omega) (by have:=h1.Ii;omega) hset ?_,?_,h2.symm,λ_ h=>h,λi hi=>?_⟩,J72,?_⟩
     ·have:=Ql h1.cell 3 (.int .i64 (left-1));simpa using this
     ·rw [hf];simp [Dq]
     ·exact hset.lt (h1.lt i hi)
     ·exact J71.trans hset λi _ hi=>hF i (by rw [show i=d from hi];exact .inl rfl)
   ·have e5:five s ns r fs=(r,s):=by simp [five,h0,hn,hc]
    rw [e5];rw [if_neg hc] at h2;rw [if_neg (λh=>hc h.1)];exact ⟨rfl,λi=>FP d m L' i,⟨m,fused,left,L',h1,hf,by rw [h2];exact hs,λ_ h=>h,λi hi=>h1.lt i hi⟩,J72,J71⟩
  ·have hn':ns.all Jq=false:=by simpa using hn
   refine (Qk3 d s.room left (.map (some m)) _ fused hpos na nc ns N pv w hD.cell hns hnl hn').mono λe w' ⟨he,hw⟩=>?_;have e5:five s ns code fs=(1,s):=by simp [five,h0,hn']
   rw [e5];exact ⟨he,hsame w' hw⟩
theorem Nw (w:World) (name:ByteArray):Rd (w.alloc (.cells #[.string name] 9)) (w.alloc (.cells #[.string name] 9)).heap.size (some ⟨w.heap.size,0,none⟩) ([name].map Value.string):=
 Rd.row (off:=0) (n:=1) (heap_alloc_new w _) (by simp) (by simp) (Nat.le_refl _)
def Zr (s:Qz) (name:ByteArray) (p:List UInt8):Int:=if s.room<Jw s.files+p.length\/(Qs s.files name=none/\4096<=s.files.length) then 6 else 0
def Jg (l:Jl) (name:ByteArray) (p:List UInt8):Jl:=
 match Qs l name with
 |some x=>Jb l name ⟨x.data++p,x.lasts⟩
 |none=>Jb l name ⟨p,0⟩
def Gy (s:Qz) (name:ByteArray) (p:List UInt8):Int×Qz:=five s [name] (Zr s name p) (Jg s.files name p)
theorem Qf6 (w:World) (d:Nat) (s:Qz) (F:Nat->Prop) (hD:Zd w d s F) (name:ByteArray) (pa:Option Addr) (pc:Nat) (p:List UInt8) (hp:Rd w w.heap.size pa (u8s p)) (hpm:p.length<=140737488355328):
  Calls Tryz.prog 187 #[.pointer (some ⟨d,0,none⟩), .string name, .slice pa p.length pc] w (Qj0 w d F (Gy s name p)):=by
 obtain ⟨m,fused,left,L,hC,hf,hs,hF,Qb9⟩:=hD;have h1:Kp No w (w.alloc (.cells #[.string name] 9)):=zK.alloc _;have hcf: ∀args w,(callFunc 235 args).run Tryz.prog w= .ok (.enter 235 args) w:=λargs w=>by simp [go_sem]
 have hg:=Q3b (w.alloc (.cells #[.string name] 9)) d m fused left L s F (hC.Q9 h1) hf hs hF (λk hk=>h1.lt (Qb9 k hk)) 235 hcf (some ⟨w.heap.size,0,none⟩) 1 [name] 0 (.slice pa p.length pc)
  (Nw w name) (by simp) (Zr s name p) (Jg s.files name p) (by
   intro _ w1 hw1;have Qb5:=(hC.Q9 h1).Q9 hw1;have hp1:=((hp.keep h1 λ_ _ x=>x).keep hw1 λ_ _ x=>x).mono (Nat.le_trans h1.size hw1.size) (Nat.le_refl _);have hn1:=((Nw w name).keep hw1 λ_ _ x=>x).mono hw1.size (Nat.le_refl _);have hroom:s.files.length=L.length:=by rw [hs];simp [Zy]
   by_cases hr:s.room<Jw (Zy L)+p.length
   ·refine (Qcs w1 d m s.room fused left L Qb5 name (some ⟨w.heap.size,0,none⟩) 1 hn1 0 pa pc p hpm hr).mono λe w2 ⟨he,hw⟩=>?_;have e6:Zr s name p=6:=by simp [Zr,hs,hr]
    rw [e6];exact ⟨he,L,Qb5.Q9 hw,rfl,Je.refl _ _,Kp.Qx hw⟩
   ·cases hc:Qs L name with
    |none=>
     have hga:Qs s.files name=none:=by rw [hs,U6,hc];rfl
     by_cases J1w:4096<=L.length
     ·refine (Qct w1 d m s.room fused left L Qb5 name (some ⟨w.heap.size,0,none⟩) 1 hn1 0 pa pc p (by omega) hc J1w).mono λe w2 ⟨he,hw⟩=>?_;have e6:Zr s name p=6:=by unfold Zr;rw [if_pos (.inr ⟨hga,by omega⟩)]
      rw [e6];exact ⟨he,L,Qb5.Q9 hw,rfl,Je.refl _ _,Kp.Qx hw⟩
     ·refine (Qhl w1 d m s.room fused left L Qb5 name (some ⟨w.heap.size,0,none⟩) 1 hn1 0 pa pc p (by omega) hp1 hc (by omega)).mono λe w2 ⟨he,c,hca,h2,h3,h4⟩=>?_
      have e0:Zr s name p=0:=by
       unfold Zr
       rw [if_neg (by
        rintro (h|⟨_,h⟩)
        ·rw [hs] at h;omega
        ·omega)]
      have ef:Jg s.files name p=Jb (Zy L) name ⟨p,0⟩:=by unfold Jg;rw [hga,hs]
      rw [e0,ef];exact ⟨he,_,h2,by rw [Kd,hca];rfl,h3,h4⟩
    |some c=>
     have hga:Qs s.files name=some c.abs:=by rw [hs,U6,hc];rfl
     refine (Qcu w1 d m s.room fused left L Qb5 name (some ⟨w.heap.size,0,none⟩) 1 hn1 0 pa pc p (by omega) hp1 c hc).mono λe w2 ⟨he,v,h2,h3,h4⟩=>?_
     have e0:Zr s name p=0:=by
      unfold Zr
      rw [if_neg (by
       rintro (h|⟨h,_⟩)
       ·rw [hs] at h;omega
       ·rw [hga] at h;cases h)]
     have ef:Jg s.files name p=Jb (Zy L) name ⟨c.data++p,c.lasts⟩:=by unfold Jg;rw [hga,hs];rfl
     rw [e0,ef];exact ⟨he,_,h2,by rw [Kd];rfl,h3,h4⟩)
 have HG:=zz hg;clear hg hp hC hF Qb9 hf hs;go_enter Tryz.func187,Tryz.ntmps187
 go_wp2_with fail
 refine (HG.out).mono ?_;rintro e w' ⟨rfl,F',h2,h3,h4⟩;have H2:=zz h2;have H3:=zz h3;have H4:=zz h4;clear h2 h3 h4;go_wp2_with fail
 go_ret
 exact ⟨rfl,F',H2.out,λk hk=>(H3.out k hk).imp id λh=>Nat.le_trans h1.size h,(Kp.Qx h1).Q0 H4.out⟩
def Uw (s:Qz) (name:ByteArray):Int:=if Qs s.files name=none then 7 else 0
def Xj (l:Jl) (name:ByteArray):Jl:=
 match Qs l name with
 |some x=>Jb l name ⟨x.data,x.data.length⟩
 |none=>l
def Da (s:Qz) (name:ByteArray):Int×Qz:=five s [name] (Uw s name) (Xj s.files name)
theorem Qj3 (w:World) (d:Nat) (s:Qz) (F:Nat->Prop) (hD:Zd w d s F) (name:ByteArray):
  Calls Tryz.prog 161 #[.pointer (some ⟨d,0,none⟩), .string name] w (Qj0 w d F (Da s name)):=by
 obtain ⟨m,fused,left,L,hC,hf,hs,hF,Qb9⟩:=hD;have h1:Kp No w (w.alloc (.cells #[.string name] 9)):=zK.alloc _;have hcf: ∀args w,(callFunc 214 args).run Tryz.prog w= .ok (.enter 214 args) w:=λargs w=>by simp [go_sem]
 have hg:=Q3b (w.alloc (.cells #[.string name] 9)) d m fused left L s F (hC.Q9 h1) hf hs hF (λk hk=>h1.lt (Qb9 k hk)) 214 hcf (some ⟨w.heap.size,0,none⟩) 1 [name] 0 (.slice none 0 0)
  (Nw w name) (by simp) (Uw s name) (Xj s.files name) (by
   intro _ w1 hw1;have Qb5:=(hC.Q9 h1).Q9 hw1;have hn1:=((Nw w name).keep hw1 λ_ _ x=>x).mono hw1.size (Nat.le_refl _);cases hc:Qs L name with
   |none=>
    have hga:Qs s.files name=none:=by rw [hs,U6,hc];rfl
    refine (Qh5 w1 d m s.room fused left L Qb5 name hc (some ⟨w.heap.size,0,none⟩) 1 hn1 0 (.slice none 0 0)).mono λe w2 ⟨he,hw⟩=>?_;have e7:Uw s name=7:=by unfold Uw;rw [if_pos hga]
    rw [e7];exact ⟨he,L,Qb5.Q9 hw,rfl,Je.refl _ _,Kp.Qx hw⟩
   |some c=>
    have hga:Qs s.files name=some c.abs:=by rw [hs,U6,hc];rfl
    refine (Qh6 w1 d m s.room fused left L Qb5 name c hc (some ⟨w.heap.size,0,none⟩) 1 hn1 0 (.slice none 0 0)).mono λe w2 ⟨he,h2,h3,h4⟩=>?_;have e0:Uw s name=0:=by unfold Uw;rw [if_neg (by rw [hga];simp)]
    have ef:Xj s.files name=Jb (Zy L) name ⟨c.data,c.data.length⟩:=by unfold Xj;rw [hga,hs];rfl
    rw [e0,ef];exact ⟨he,_,h2,by rw [Kd];rfl,h3,h4⟩)
 have HG:=zz hg;clear hg hC hF Qb9 hf hs;go_enter Tryz.func161,Tryz.ntmps161
 go_wp2_with fail
 refine (HG.out).mono ?_;rintro e w' ⟨rfl,F',h2,h3,h4⟩;have H2:=zz h2;have H3:=zz h3;have H4:=zz h4;clear h2 h3 h4;go_wp2_with fail
 go_ret
 exact ⟨rfl,F',H2.out,λk hk=>(H3.out k hk).imp id λh=>Nat.le_trans h1.size h,(Kp.Qx h1).Q0 H4.out⟩
def Qpp (s:Qz) (n:Int):Qz:={s with Jo:=if 0<=n then some n.toNat else none}
theorem Qi9 (w:World) (d:Nat) (s:Qz) (F:Nat->Prop) (hD:Zd w d s F) (n:Int) (hn:n<=9223372036854775807):
  Calls Tryz.prog 38 #[.pointer (some ⟨d,0,none⟩), .int .i64 n] w λe w'=>e= .returned (.tuple #[])/\Zd w' d (Qpp s n) F/\Kp (One d) w w':=by
 obtain ⟨m,fused,left,L,hC,hf,hs,hF,Qb9⟩:=hD;have c2:=Q4 hC.cell 2;have c3:=Q4 hC.cell 3;have f2:=Qh hC.cell 2;have f3:=Qh hC.cell 3;have hdl:=Q7 hC.cell;simp at c2 c3
 have key: ∀(b:Bool) (l:Int),0<=l->l<=9223372036854775807->(Qpp s n).Jo=Dq b l->
   Zd ((w.setCell ⟨d,2,none⟩ (.bool b)).setCell ⟨d,3,none⟩ (.int .i64 l)) d (Qpp s n) F/\Kp (One d) w ((w.setCell ⟨d,2,none⟩ (.bool b)).setCell ⟨d,3,none⟩ (.int .i64 l)):=λb l h0 h1 he=>by
  have hk:Kp (One d) w ((w.setCell ⟨d,2,none⟩ (.bool b)).setCell ⟨d,3,none⟩ (.int .i64 l)):=((Kp.refl (One d) _).setCell (p:=⟨d,2,none⟩) (.inl rfl) _).setCell (p:=⟨d,3,none⟩) (.inl rfl) _;have hc:=Ql (Ql hC.cell 2 (.bool b)) 3 (.int .i64 l);refine ⟨⟨m,b,l,L,hC.Qef b l h0 h1 hk ?_,he,hs,hF,λk h=>hk.lt (Qb9 k h)⟩,hk⟩;simpa using hc
 have HK:=zz key;clear key hC hf hs hF Qb9;by_cases h0:0<=n
 ·have hmax:(if n>0 then n else 0)=n:=by split<;>omega
  have J1u:max 0 n=n:=by omega
  go_enter Tryz.func38,Tryz.ntmps38
  go_wp2_with fail
  all_goals
   go_end0
   exact ⟨rfl,HK.out true n h0 hn (by simp [Qpp,h0,Dq])⟩
 ·have hmax:(if n>0 then n else 0)=0:=by split<;>omega
  have J1u:max 0 n=0:=by omega
  go_enter Tryz.func38,Tryz.ntmps38
  go_wp2_with fail
  all_goals
   go_end0
   exact ⟨rfl,HK.out false 0 (by omega) (by omega) (by simp [Qpp,h0,Dq])⟩
def Oj (l:Jl) (name:ByteArray):List UInt8×Int:=
 match Qs l name with
 |some x=>(x.data,0)
 |none=>([],7)
def Q6l (w:World) (d:Nat) (s:Qz) (F:Nat->Prop) (name:ByteArray) (e:Ending) (w':World):Prop:=
 ∃v,e= .returned (.tuple #[v, .int .i64 (Oj s.files name).2])/\Own w' 5 1 v (Oj s.files name).1.length (u8s (Oj s.files name).1)/\Kp No w w'/\(∀g,v.ownBlock=some g->w.heap.size<=g)/\Zd w' d s F
theorem Qiz (w:World) (d:Nat) (s:Qz) (F:Nat->Prop) (hD:Zd w d s F) (name:ByteArray):
  Calls Tryz.prog 145 #[.pointer (some ⟨d,0,none⟩), .string name] w (Q6l w d s F name):=by
 have Ja3:=zz hD;obtain ⟨m,fused,left,L,hC,hf,hs,hF,Qb9⟩:=hD;have c1:=Q4 hC.cell 1;have hdl:=Q7 hC.cell;simp at c1
 have hlook:=Q3m hC.map name;rw [show M4 L=L.map λp=>(p.1,p.2.ptr) from rfl,Kc] at hlook;cases hc:Qs L name with
 |none=>
  have hga:Qs s.files name=none:=by rw [hs,U6,hc];rfl
  rw [hc] at hlook;simp only [Option.map_none,Option.getD_none] at hlook;have HA:=zz hga;clear hga hc hC hf hs hF Qb9;go_enter Tryz.func145,Tryz.ntmps145
  go_wp2_with fail
  go_ret2
  have e7:Oj s.files name=([],7):=by unfold Oj;rw [HA.out]
  refine ⟨.slice none 0 0,?_,?_,Kp.refl _ _,λg h=>by simp [Value.ownBlock] at h,Ja3.out⟩
  ·rw [e7];rfl
  ·rw [e7];exact Own.nil _ _ _
 |some c=>
  have hga:Qs s.files name=some c.abs:=by rw [hs,U6,hc];rfl
  have hfo:=hC.files _ (Jc hc);have hfl:=Q7 hfo.1;have Qup:=Q4 hfo.1 0;obtain ⟨fa,fc,hv,_,hrd⟩:=hfo.2.1.rd;simp at Qup
  rw [hv] at Qup;have hfit:=hC.fits;have hroom:=hC.roomy;have hmem:=Q5a (l:=Zy L) (p:=(name,c.abs)) (List.mem_map.2 ⟨(name,c),Jc hc,rfl⟩);have hlen:c.data.length<=140737488355328:=by simp only [Yx.abs] at hmem;omega
  rw [hc] at hlook;simp only [Option.map_some,Option.getD_some,Yx.ptr] at hlook;have hcl:=Ni fa fc c.data w.heap.size w hrd hlen;have HA:=zz hga;have HL:=zz hcl;clear hga hc hC hf hs hF Qb9 hcl hfo hv hrd hfit hroom hmem;go_enter Tryz.func145,Tryz.ntmps145
  go_wp2_with fail
  refine (HL.out).mono ?_;rintro e w' ⟨v,rfl,h1,h2,h3⟩;have H1:=zz h1;have H2:=zz h2;have H3:=zz h3;clear h1 h2 h3;go_wp2_with fail
  go_ret2
  have e0:Oj s.files name=(c.data,0):=by unfold Oj;rw [HA.out];rfl
  refine ⟨v,?_,?_,H2.out,H3.out,Ja3.out.Q9 H2.out⟩
  ·rw [e0];rfl
  ·rw [e0];exact H1.out
theorem J3i {x y:UInt8} (h: ¬x=y):((x.toNat:Int) !=(y.toNat:Int))=true:=by
 simp only [bne_iff_ne,ne_eq,Int.natCast_inj];exact λe=>h (UInt8.toNat_inj.1 e)
theorem Iw (a b:Option Addr) (c d B B':Nat) (xs ys:List UInt8) (w:World) (hx:Rd w B a (u8s xs)) (hy:Rd w B' b (u8s ys)) (hm:xs.length<=140737488355328):
  Calls Tryz.prog 29 #[.slice a xs.length c, .slice b ys.length d] w λe w'=>e= .returned (.bool (decide (xs=ys)))/\ ∃n,w'=w.drewN n:=by
 by_cases hl:xs.length=ys.length
 ·have HL:=zz hl;rw [<-hl];clear hl;have HX:=zz hx;have HY:=zz hy;clear hx hy;go_enter Tryz.func29,Tryz.ntmps29
  go_wp2_with fail
  go_loopg [5] xs.length (λg i wr=> ∃k:Nat,k<=xs.length/\g=xs.length-k/\i= .int .i64 k/\Hid (∃n,wr=w.drewN n)/\Hid (xs.take k=ys.take k))
  case atStart=>exact ⟨0,Nat.zero_le _,rfl,rfl,⟨0,rfl⟩,rfl⟩
  case round=>
   obtain ⟨k,hk,rfl,rfl,hw,ht⟩:=hrel;by_cases hlt:k<xs.length
   ·have hlt2:k<ys.length:=by have:=HL.out;omega
    have hxw:Rd wr B a (u8s xs):=by obtain ⟨n,rfl⟩:=hw.out;exact HX.out
    have J8s:Rd wr B' b (u8s ys):=by obtain ⟨n,rfl⟩:=hw.out;exact HY.out
    obtain ⟨g,off,rfl,hg,hB,hc⟩:=hxw.byte hlt;obtain ⟨g',off',rfl,hg',hB',hc'⟩:=J8s.byte (i:=k) hlt2;have hgl:g<wr.heap.size:=by omega
    have Q4s:g'<wr.heap.size:=by omega
    have hcn: ∀n,(wr.drewN n).cell? ⟨g,off+k,none⟩=some (.int .u8 (xs[k].toNat:Int)):=λ_=>hc;have hcn': ∀n,(wr.drewN n).cell? ⟨g',off'+k,none⟩=some (.int .u8 (ys[k].toNat:Int)):=λ_=>hc';by_cases he:xs[k]=ys[k]
    ·rw [<-he] at hcn'
     have htk:Hid (xs.take (k+1)=ys.take (k+1)):=by
      show _=_
      rw [List.take_succ_eq_append_getElem hlt,List.take_succ_eq_append_getElem hlt2,ht.out,he]
     clear he hxw J8s hc hc';go_wp2_with fail
     refine zE [0,0,0,1,0,0,0,1,0] [0,1,2,4,5,6,3,7,8] ?_;repeat (first|refine zA ?_|refine zB ?_|refine zC ?_)
     refine Qa (λnq=>?_);go_wp2_with fail
     go_roundg (xs.length-(k+1))
     case measure=>omega
     case rel=>exact ⟨k+1,by omega,rfl,by go_num,by obtain ⟨n,e⟩:=hw.out;exact ⟨n+nq,by rw [e,World.drewN_drewN]⟩,htk⟩
    ·have hne:=J3i he
     have Qss:decide (xs=ys)=false:=by
      simp only [decide_eq_false_iff_not];rintro rfl;exact he rfl
     have Qzu:=zz Qss;clear he hxw J8s hc hc' Qss;go_wp2_with fail
     refine zE [0,0,0,1,0,0,0,1,0] [0,1,2,4,5,6,3,7,8] ?_;repeat (first|refine zA ?_|refine zB ?_|refine zC ?_)
     refine Qa (λnq=>?_);go_wp2_with fail
     go_ret
     exact ⟨(by rw [Qzu.out];try rfl),by obtain ⟨n,e⟩:=hw.out;exact ⟨n+nq,by rw [e,World.drewN_drewN]⟩⟩
   ·have Qss:decide (xs=ys)=true:=by
     have h1:=ht.out;rw [List.take_of_length_le (by omega),List.take_of_length_le (by have:=HL.out;omega)] at h1;simp [h1]
    have Qzu:=zz Qss;clear Qss;go_wp2_with fail
    go_ret
    exact ⟨(by rw [Qzu.out];try rfl),hw.out⟩
 ·have Qss:decide (xs=ys)=false:=by
   simp only [decide_eq_false_iff_not];rintro rfl;exact hl rfl
  have Qzu:=zz Qss;have hne: ¬((xs.length:Int)=(ys.length:Int)):=by omega
  clear hx hy hl Qss;go_enter Tryz.func29,Tryz.ntmps29
  go_wp2_with fail
  go_ret
  exact ⟨(by rw [Qzu.out];try rfl),0,rfl⟩
section
variable {w w':World} {d m room:Nat} {fused:Bool} {left:Int} {L L':Ye}
end
def Qwq (s:Qz) (name:ByteArray):Int:=if Qs s.files name=none then 7 else 0
def Jd0 (s:Qz) (name:ByteArray):Int×Qz:=five s [name] (Qwq s name) (J6t s.files name)
end Go.Proofs.YtgnkmjeoaoongaaGreatDoor
