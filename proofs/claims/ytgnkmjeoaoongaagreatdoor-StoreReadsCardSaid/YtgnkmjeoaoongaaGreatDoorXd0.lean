/-
  SXCmp, SXVer, SXOwn, SXIs.
-/
import Derived.Test.YtgnkmjeoaoongaaGreatDoorXc6
set_option maxRecDepth 100000
set_option maxHeartbeats 2000000
namespace Go.Proofs.YtgnkmjeoaoongaaGreatDoor
open Go.RowKit Go.Mer
theorem Eb (m c n d:Int) (w:World):Calls Tryz.prog 27 #[Xo m c,Xo n d] w λe w'=>e= .returned (.int .i64 (Js m c n d))/\Kp No w w':=by
 rcases Int.lt_trichotomy m n with h|h|h
 ·have e:(m==n)=false:=by simp;omega
  have HV:Hid (Js m c n d= -1):=by show Js _ _ _ _=_;unfold Js;rw [if_pos (.inl h)]
  go_enter Tryz.func27,Tryz.ntmps27
  go_wp2_with fail
  go_ret
  exact ⟨by rw [show Js _ _ _ _=_ from HV];rfl,(zK.alloc _).alloc _⟩
 ·subst h;rcases Int.lt_trichotomy c d with h|h|h
  ·skip
   have HV:Hid (Js m c m d= -1):=by show Js _ _ _ _=_;unfold Js;rw [if_pos (.inr ⟨rfl,h⟩)]
   go_enter Tryz.func27,Tryz.ntmps27
   go_wp2_with fail
   go_ret
   exact ⟨by rw [show Js _ _ _ _=_ from HV];rfl,(zK.alloc _).alloc _⟩
  ·subst h;have HV:Hid (Js m c m c=0):=by show Js _ _ _ _=_;unfold Js;rw [if_neg (by omega),if_pos ⟨rfl,rfl⟩]
   go_enter Tryz.func27,Tryz.ntmps27
   go_wp2_with fail
   go_ret
   exact ⟨by rw [show Js _ _ _ _=_ from HV];rfl,(zK.alloc _).alloc _⟩
  ·have e:(c==d)=false:=by simp;omega
   have HV:Hid (Js m c m d=1):=by show Js _ _ _ _=_;unfold Js;rw [if_neg (by omega),if_neg (by omega)]
   go_enter Tryz.func27,Tryz.ntmps27
   go_wp2_with fail
   go_ret
   exact ⟨by rw [show Js _ _ _ _=_ from HV];rfl,(zK.alloc _).alloc _⟩
 ·have e:(m==n)=false:=by simp;omega
  have HV:Hid (Js m c n d=1):=by show Js _ _ _ _=_;unfold Js;rw [if_neg (by omega),if_neg (by omega)]
  go_enter Tryz.func27,Tryz.ntmps27
  go_wp2_with fail
  go_ret
  exact ⟨by rw [show Js _ _ _ _=_ from HV];rfl,(zK.alloc _).alloc _⟩
theorem Q9b (m c o:Int) (v:Value) (g:Bool) (tt t1 t2:Int) (w:World):
  Calls Tryz.prog 81 #[Qd7 m c o v g tt,Xo t1 t2] w λe w'=>e= .returned (.bool (Hr m c g tt t1 t2))/\Kp No w w':=by
 obtain ⟨r,hr⟩: ∃r,r=Hr m c g tt t1 t2:=⟨_,rfl⟩;rw [<-hr];have hcc:=λW=>Eb m c t1 t2 W;obtain ⟨q,hq⟩: ∃q,q=Js m c t1 t2:=⟨_,rfl⟩;unfold Hr at hr;rw [<-hq] at hr hcc;have HC:=zz hcc;have HR:=zz hr;clear hr hcc hq;obtain ⟨W1,hW1⟩: ∃W1,W1=(w.alloc (.cells #[.int .i64 m, .int .i64 c, .int .i64 o,v, .bool g, .int .i64 tt] 44)).alloc (.cells #[.int .i64 t1, .int .i64 t2] 25):=⟨_,rfl⟩;have H1:Kp No w W1:=by rw [hW1];exact (zK.alloc _).alloc _
 have b1:W1.heap[w.heap.size]?=some (.cells #[.int .i64 m, .int .i64 c, .int .i64 o,v, .bool g, .int .i64 tt] 44 (0,0)):=by rw [hW1];exact J6 (heap_alloc_new w _) _
 have b2:W1.heap[w.heap.size+1]?=some (.cells #[.int .i64 t1, .int .i64 t2] 25 (0,0)):=by rw [hW1];exact (congrArg (λk=>((w.alloc _).alloc _).heap[k]?) (by simp)).trans (heap_alloc_new (w.alloc _) _)
 have HH:=zz H1;have HB1:=zz b1;have HB2:=zz b2;clear b1 b2 H1;go_enter Tryz.func81,Tryz.ntmps81
 go_wp2_with fail
 rw [<-hW1];clear hW1;refine (HC.out _).mono ?_;rintro e W2 ⟨rfl,hk2⟩;have Qz:=zz (HH.out.trans_same hk2);have b1:=hk2.get HB1.out λx=>x;have b2:=hk2.get HB2.out λx=>x;have c0:W2.cell? ⟨w.heap.size,0,none⟩=some (.int .i64 m):=by rw [Q0 b1];rfl
 have c4:W2.cell? ⟨w.heap.size,4,none⟩=some (.bool g):=by rw [Q0 b1];rfl
 have c5:W2.cell? ⟨w.heap.size,5,none⟩=some (.int .i64 tt):=by rw [Q0 b1];rfl
 have e0:W2.cell? ⟨w.heap.size+1,0,none⟩=some (.int .i64 t1):=by rw [Q0 b2];rfl
 clear b1 b2 hk2;by_cases h1:q<=0
 ·have d1:decide (q<=0)=true:=decide_eq_true h1;have D1:=zz d1;have d3:decide (0<q)=false:=decide_eq_false (by omega);clear h1 d1;cases g with
  |true=>
   go_wp2_with fail
   go_ret
   exact ⟨by rw [HR.out,D1.out];rfl,Qz.out⟩
  |false=>
   by_cases h2:tt=0
   ·subst h2;go_wp2_with fail
    go_ret
    exact ⟨by rw [HR.out,D1.out];rfl,Qz.out⟩
   ·have d2:(tt==0)=false:=by simp [h2]
    have D2:=zz d2;clear h2;go_wp2_with fail
    go_ret
    exact ⟨by rw [HR.out,D1.out,D2.out];rfl,Qz.out⟩
 ·have d1:decide (q<=0)=false:=decide_eq_false h1;have D1:=zz d1;have d3:decide (0<q)=true:=decide_eq_true (by omega);clear h1 d1;go_wp2_with fail
  go_ret
  exact ⟨by rw [HR.out,D1.out];rfl,Qz.out⟩
theorem Q1u (x:Qd) (hv:Zx x.v=true) (m c:Int) (hm:m<=9223372036854775807) (w:World):Calls Tryz.prog 81 #[Y0 x,Xo m c] w λe w'=>e= .returned (.bool (Vr x.v m c))/\Kp No w w':=by
 rw [<-Qam x.v hv m c hm];exact Q9b x.v.m x.v.c x.v.o x.sl x.v.gone x.v.ttl m c w
theorem Q6p (m c o:Int) (v:Value) (g:Bool) (tt:Int) (m' c' o':Int) (v':Value) (g':Bool) (Qrw:Int) (w:World):
  Calls Tryz.prog 131 #[Qd7 m c o v g tt,Qd7 m' c' o' v' g' Qrw] w λe w'=>e= .returned (.int .i64 (Q33 m c o m' c' o'))/\Kp No w w':=by
 obtain ⟨r,hr⟩: ∃r,r=Q33 m c o m' c' o':=⟨_,rfl⟩;rw [<-hr];have hcc:=λW=>Eb m c m' c' W;obtain ⟨q,hq⟩: ∃q,q=Js m c m' c':=⟨_,rfl⟩;unfold Q33 at hr;rw [<-hq] at hr hcc;have HC:=zz hcc;have HR:=zz hr;clear hr hcc hq;obtain ⟨W1,hW1⟩: ∃W1,W1=(w.alloc (.cells #[.int .i64 m, .int .i64 c, .int .i64 o,v, .bool g, .int .i64 tt] 44)).alloc (.cells #[.int .i64 m', .int .i64 c', .int .i64 o',v', .bool g', .int .i64 Qrw] 44):=⟨_,rfl⟩;have H1:Kp No w W1:=by rw [hW1];exact (zK.alloc _).alloc _
 have b1:W1.heap[w.heap.size]?=some (.cells #[.int .i64 m, .int .i64 c, .int .i64 o,v, .bool g, .int .i64 tt] 44 (0,0)):=by rw [hW1];exact J6 (heap_alloc_new w _) _
 have b2:W1.heap[w.heap.size+1]?=some (.cells #[.int .i64 m', .int .i64 c', .int .i64 o',v', .bool g', .int .i64 Qrw] 44 (0,0)):=by rw [hW1];exact (congrArg (λk=>((w.alloc _).alloc _).heap[k]?) (by simp)).trans (heap_alloc_new (w.alloc _) _)
 have HH:=zz H1;have HB1:=zz b1;have HB2:=zz b2;clear b1 b2 H1;go_enter Tryz.func131,Tryz.ntmps131
 go_wp2_with fail
 rw [<-hW1];clear hW1;refine (HC.out _).mono ?_;rintro e W2 ⟨rfl,hk2⟩;have Qz:=zz (HH.out.trans_same hk2);have b1:=hk2.get HB1.out λx=>x;have b2:=hk2.get HB2.out λx=>x;have c1:W2.cell? ⟨w.heap.size,2,none⟩=some (.int .i64 o):=by rw [Q0 b1];rfl
 have e1:W2.cell? ⟨w.heap.size+1,2,none⟩=some (.int .i64 o'):=by rw [Q0 b2];rfl
 clear b1 b2 hk2;by_cases h1:q=0
 ·have d1:(q==0)=true:=by rw [beq_iff_eq];exact h1
  have d2:(q !=0)=false:=by rw [bne,d1];rfl
  have HR2:=zz (show r=Vv o o' by rw [HR.out,if_neg (λh=>h h1)]);clear h1;rcases Int.lt_trichotomy o o' with h|h|h
  ·have d3:decide (o<o')=true:=decide_eq_true h;have HV:=zz (show r= -1 by rw [HR2.out];unfold Vv;rw [if_pos h]);clear h;go_wp2_with fail
   go_ret
   exact ⟨by rw [HV.out];rfl,Qz.out⟩
  ·have d3:decide (o<o')=false:=decide_eq_false (by omega);have d4:decide (o'<o)=false:=decide_eq_false (by omega);have HV:=zz (show r=0 by rw [HR2.out];unfold Vv;rw [if_neg (by omega),if_neg (by omega)]);clear h;go_wp2_with fail
   go_ret
   exact ⟨by rw [HV.out];rfl,Qz.out⟩
  ·have d3:decide (o<o')=false:=decide_eq_false (by omega);have d4:decide (o'<o)=true:=decide_eq_true h;have HV:=zz (show r=1 by rw [HR2.out];unfold Vv;rw [if_neg (by omega),if_pos h]);clear h;go_wp2_with fail
   go_ret
   exact ⟨by rw [HV.out];rfl,Qz.out⟩
 ·have d1:(q==0)=false:=by rw [beq_eq_false_iff_ne];exact h1
  have d2:(q !=0)=true:=by rw [bne,d1];rfl
  have HR2:=zz (show r=q by rw [HR.out,if_pos h1]);go_wp2_with fail
  go_ret
  exact ⟨by rw [HR2.out];rfl,Qz.out⟩
theorem Q02 (x y:Qd) (w:World):Calls Tryz.prog 131 #[Y0 x,Y0 y] w λe w'=>e= .returned (.int .i64 (Om x.v y.v))/\Kp No w w':=
 Q6p x.v.m x.v.c x.v.o x.sl x.v.gone x.v.ttl y.v.m y.v.c y.v.o y.sl y.v.gone y.v.ttl w
theorem Qnb (v:Qf) (a:Option Addr) (cap:Nat) (w:World) (HB:Hid (Jp v.m v.c=false)) (HR:Hid (Zx v=false)):
  Calls Tryz.prog 54 #[.agg #[.int .i64 v.m, .int .i64 v.c, .int .i64 v.o, .slice a v.val.length cap, .bool v.gone, .int .i64 v.ttl]] w λe w'=>e= .returned (.bool (Zx v))/\Kp No w w':=by
 obtain ⟨z,hz⟩: ∃z,z=Zx v:=⟨_,rfl⟩;rw [<-hz] at HR⊢;clear hz;have Yx:=λw=>Vq v.m v.c w;simp only [HB.out] at Yx;have HQ:=zz Yx;clear Yx;go_enter Tryz.func54,Tryz.ntmps54
 go_wp2_with fail
 refine (HQ.out _).mono ?_;rintro e w' ⟨rfl,hk⟩;have hk':Kp No w w':=(zK.alloc _).trans_same hk;have hc:=hk.get (heap_alloc_new w _) λx=>x;have c2:=Q0 hc 2;have c3:=Q0 hc 3;have c4:=Q0 hc 4;have c5:=Q0 hc 5;have hlt:=Q3 hc;simp at c2 c3 c4 c5
 clear hc hk;have hun: ∀b:Bool,(undef=Value.bool b)=False:=λb=>by unfold undef;simp
 go_wp2_with fail
 all_goals
  go_ret
  exact ⟨by rw [HR.out];rfl,hk'⟩
theorem Qn3 (v:Qf) (a:Option Addr) (cap:Nat) (w:World) (HB:Hid (Jp v.m v.c=true)) (d1:decide (v.o<0)=true) (HR:Hid (Zx v=false)):
  Calls Tryz.prog 54 #[.agg #[.int .i64 v.m, .int .i64 v.c, .int .i64 v.o, .slice a v.val.length cap, .bool v.gone, .int .i64 v.ttl]] w λe w'=>e= .returned (.bool (Zx v))/\Kp No w w':=by
 obtain ⟨z,hz⟩: ∃z,z=Zx v:=⟨_,rfl⟩;rw [<-hz] at HR⊢;clear hz;have Yx:=λw=>Vq v.m v.c w;simp only [HB.out] at Yx;have HQ:=zz Yx;clear Yx;go_enter Tryz.func54,Tryz.ntmps54
 go_wp2_with fail
 refine (HQ.out _).mono ?_;rintro e w' ⟨rfl,hk⟩;have hk':Kp No w w':=(zK.alloc _).trans_same hk;have hc:=hk.get (heap_alloc_new w _) λx=>x;have c2:=Q0 hc 2;have c3:=Q0 hc 3;have c4:=Q0 hc 4;have c5:=Q0 hc 5;have hlt:=Q3 hc;simp at c2 c3 c4 c5
 clear hc hk;have hun: ∀b:Bool,(undef=Value.bool b)=False:=λb=>by unfold undef;simp
 go_wp2_with fail
 all_goals
  go_ret
  exact ⟨by rw [HR.out];rfl,hk'⟩
theorem Qn4 (v:Qf) (a:Option Addr) (cap:Nat) (w:World) (HB:Hid (Jp v.m v.c=true)) (d1:decide (v.o<0)=false) (d2:decide (5<=v.o)=true) (HR:Hid (Zx v=false)):
  Calls Tryz.prog 54 #[.agg #[.int .i64 v.m, .int .i64 v.c, .int .i64 v.o, .slice a v.val.length cap, .bool v.gone, .int .i64 v.ttl]] w λe w'=>e= .returned (.bool (Zx v))/\Kp No w w':=by
 obtain ⟨z,hz⟩: ∃z,z=Zx v:=⟨_,rfl⟩;rw [<-hz] at HR⊢;clear hz;have Yx:=λw=>Vq v.m v.c w;simp only [HB.out] at Yx;have HQ:=zz Yx;clear Yx;go_enter Tryz.func54,Tryz.ntmps54
 go_wp2_with fail
 refine (HQ.out _).mono ?_;rintro e w' ⟨rfl,hk⟩;have hk':Kp No w w':=(zK.alloc _).trans_same hk;have hc:=hk.get (heap_alloc_new w _) λx=>x;have c2:=Q0 hc 2;have c3:=Q0 hc 3;have c4:=Q0 hc 4;have c5:=Q0 hc 5;have hlt:=Q3 hc;simp at c2 c3 c4 c5
 clear hc hk;have hun: ∀b:Bool,(undef=Value.bool b)=False:=λb=>by unfold undef;simp
 go_wp2_with fail
 all_goals
  go_ret
  exact ⟨by rw [HR.out];rfl,hk'⟩
theorem Qn5 (v:Qf) (a:Option Addr) (cap:Nat) (w:World) (HB:Hid (Jp v.m v.c=true)) (d1:decide (v.o<0)=false) (d2:decide (5<=v.o)=false) (d3:decide ((1024:Int)<(v.val.length:Int))=true) (_:decide (1024<v.val.length)=true) (HR:Hid (Zx v=false)):
  Calls Tryz.prog 54 #[.agg #[.int .i64 v.m, .int .i64 v.c, .int .i64 v.o, .slice a v.val.length cap, .bool v.gone, .int .i64 v.ttl]] w λe w'=>e= .returned (.bool (Zx v))/\Kp No w w':=by
 obtain ⟨z,hz⟩: ∃z,z=Zx v:=⟨_,rfl⟩;rw [<-hz] at HR⊢;clear hz;have Yx:=λw=>Vq v.m v.c w;simp only [HB.out] at Yx;have HQ:=zz Yx;clear Yx;go_enter Tryz.func54,Tryz.ntmps54
 go_wp2_with fail
 refine (HQ.out _).mono ?_;rintro e w' ⟨rfl,hk⟩;have hk':Kp No w w':=(zK.alloc _).trans_same hk;have hc:=hk.get (heap_alloc_new w _) λx=>x;have c2:=Q0 hc 2;have c3:=Q0 hc 3;have c4:=Q0 hc 4;have c5:=Q0 hc 5;have hlt:=Q3 hc;simp at c2 c3 c4 c5
 clear hc hk;have hun: ∀b:Bool,(undef=Value.bool b)=False:=λb=>by unfold undef;simp
 go_wp2_with fail
 all_goals
  go_ret
  exact ⟨by rw [HR.out];rfl,hk'⟩
theorem Qn6 (v:Qf) (a:Option Addr) (cap:Nat) (w:World) (HB:Hid (Jp v.m v.c=true)) (d1:decide (v.o<0)=false) (d2:decide (5<=v.o)=false) (d3:decide ((1024:Int)<(v.val.length:Int))=false) (_:decide (1024<v.val.length)=false) (d4:decide (v.ttl<0)=true) (HR:Hid (Zx v=false)):
  Calls Tryz.prog 54 #[.agg #[.int .i64 v.m, .int .i64 v.c, .int .i64 v.o, .slice a v.val.length cap, .bool v.gone, .int .i64 v.ttl]] w λe w'=>e= .returned (.bool (Zx v))/\Kp No w w':=by
 obtain ⟨z,hz⟩: ∃z,z=Zx v:=⟨_,rfl⟩;rw [<-hz] at HR⊢;clear hz;have Yx:=λw=>Vq v.m v.c w;simp only [HB.out] at Yx;have HQ:=zz Yx;clear Yx;go_enter Tryz.func54,Tryz.ntmps54
 go_wp2_with fail
 refine (HQ.out _).mono ?_;rintro e w' ⟨rfl,hk⟩;have hk':Kp No w w':=(zK.alloc _).trans_same hk;have hc:=hk.get (heap_alloc_new w _) λx=>x;have c2:=Q0 hc 2;have c3:=Q0 hc 3;have c4:=Q0 hc 4;have c5:=Q0 hc 5;have hlt:=Q3 hc;simp at c2 c3 c4 c5
 clear hc hk;have hun: ∀b:Bool,(undef=Value.bool b)=False:=λb=>by unfold undef;simp
 go_wp2_with fail
 all_goals
  go_ret
  exact ⟨by rw [HR.out];rfl,hk'⟩
theorem Qn7 (v:Qf) (a:Option Addr) (cap:Nat) (w:World) (HB:Hid (Jp v.m v.c=true)) (d1:decide (v.o<0)=false) (d2:decide (5<=v.o)=false) (d3:decide ((1024:Int)<(v.val.length:Int))=false) (_:decide (1024<v.val.length)=false) (d4:decide (v.ttl<0)=false) (d5:decide (281474976710655<v.ttl)=true) (HR:Hid (Zx v=false)):
  Calls Tryz.prog 54 #[.agg #[.int .i64 v.m, .int .i64 v.c, .int .i64 v.o, .slice a v.val.length cap, .bool v.gone, .int .i64 v.ttl]] w λe w'=>e= .returned (.bool (Zx v))/\Kp No w w':=by
 obtain ⟨z,hz⟩: ∃z,z=Zx v:=⟨_,rfl⟩;rw [<-hz] at HR⊢;clear hz;have Yx:=λw=>Vq v.m v.c w;simp only [HB.out] at Yx;have HQ:=zz Yx;clear Yx;go_enter Tryz.func54,Tryz.ntmps54
 go_wp2_with fail
 refine (HQ.out _).mono ?_;rintro e w' ⟨rfl,hk⟩;have hk':Kp No w w':=(zK.alloc _).trans_same hk;have hc:=hk.get (heap_alloc_new w _) λx=>x;have c2:=Q0 hc 2;have c3:=Q0 hc 3;have c4:=Q0 hc 4;have c5:=Q0 hc 5;have hlt:=Q3 hc;simp at c2 c3 c4 c5
 clear hc hk;have hun: ∀b:Bool,(undef=Value.bool b)=False:=λb=>by unfold undef;simp
 go_wp2_with fail
 all_goals
  go_ret
  exact ⟨by rw [HR.out];rfl,hk'⟩
theorem Qn8 (v:Qf) (a:Option Addr) (cap:Nat) (w:World) (HB:Hid (Jp v.m v.c=true)) (d1:decide (v.o<0)=false) (d2:decide (5<=v.o)=false) (d3:decide ((1024:Int)<(v.val.length:Int))=false) (_:decide (1024<v.val.length)=false) (d4:decide (v.ttl<0)=false) (d5:decide (281474976710655<v.ttl)=false) (db:v.gone=false) (HR:Hid (Zx v=true)):
  Calls Tryz.prog 54 #[.agg #[.int .i64 v.m, .int .i64 v.c, .int .i64 v.o, .slice a v.val.length cap, .bool v.gone, .int .i64 v.ttl]] w λe w'=>e= .returned (.bool (Zx v))/\Kp No w w':=by
 obtain ⟨z,hz⟩: ∃z,z=Zx v:=⟨_,rfl⟩;rw [<-hz] at HR⊢;clear hz;have Yx:=λw=>Vq v.m v.c w;simp only [HB.out] at Yx;have HQ:=zz Yx;clear Yx;go_enter Tryz.func54,Tryz.ntmps54
 go_wp2_with fail
 refine (HQ.out _).mono ?_;rintro e w' ⟨rfl,hk⟩;have hk':Kp No w w':=(zK.alloc _).trans_same hk;have hc:=hk.get (heap_alloc_new w _) λx=>x;have c2:=Q0 hc 2;have c3:=Q0 hc 3;have c4:=Q0 hc 4;have c5:=Q0 hc 5;have hlt:=Q3 hc;simp at c2 c3 c4 c5
 clear hc hk;have hun: ∀b:Bool,(undef=Value.bool b)=False:=λb=>by unfold undef;simp
 go_wp2_with fail
 all_goals
  go_ret
  exact ⟨by rw [HR.out];rfl,hk'⟩
theorem Qn9 (v:Qf) (a:Option Addr) (cap:Nat) (w:World) (HB:Hid (Jp v.m v.c=true)) (d1:decide (v.o<0)=false) (d2:decide (5<=v.o)=false) (d3:decide ((1024:Int)<(v.val.length:Int))=false) (_:decide (1024<v.val.length)=false) (d4:decide (v.ttl<0)=false) (d5:decide (281474976710655<v.ttl)=false) (db:v.gone=true) (dc:((v.val.length:Int)==0)=false) (_:(v.val.length==0)=false) (HR:Hid (Zx v=false)):
  Calls Tryz.prog 54 #[.agg #[.int .i64 v.m, .int .i64 v.c, .int .i64 v.o, .slice a v.val.length cap, .bool v.gone, .int .i64 v.ttl]] w λe w'=>e= .returned (.bool (Zx v))/\Kp No w w':=by
 obtain ⟨z,hz⟩: ∃z,z=Zx v:=⟨_,rfl⟩;rw [<-hz] at HR⊢;clear hz;have Yx:=λw=>Vq v.m v.c w;simp only [HB.out] at Yx;have HQ:=zz Yx;clear Yx;go_enter Tryz.func54,Tryz.ntmps54
 go_wp2_with fail
 refine (HQ.out _).mono ?_;rintro e w' ⟨rfl,hk⟩;have hk':Kp No w w':=(zK.alloc _).trans_same hk;have hc:=hk.get (heap_alloc_new w _) λx=>x;have c2:=Q0 hc 2;have c3:=Q0 hc 3;have c4:=Q0 hc 4;have c5:=Q0 hc 5;have hlt:=Q3 hc;simp at c2 c3 c4 c5
 clear hc hk;have hun: ∀b:Bool,(undef=Value.bool b)=False:=λb=>by unfold undef;simp
 go_wp2_with fail
 all_goals
  go_ret
  exact ⟨by rw [HR.out];rfl,hk'⟩
theorem Qna (v:Qf) (a:Option Addr) (cap:Nat) (w:World) (HB:Hid (Jp v.m v.c=true)) (d1:decide (v.o<0)=false) (d2:decide (5<=v.o)=false) (d3:decide ((1024:Int)<(v.val.length:Int))=false) (_:decide (1024<v.val.length)=false) (d4:decide (v.ttl<0)=false) (d5:decide (281474976710655<v.ttl)=false) (db:v.gone=true) (dc:((v.val.length:Int)==0)=true) (_:(v.val.length==0)=true) (dd:(v.ttl==0)=false) (HR:Hid (Zx v=false)):
  Calls Tryz.prog 54 #[.agg #[.int .i64 v.m, .int .i64 v.c, .int .i64 v.o, .slice a v.val.length cap, .bool v.gone, .int .i64 v.ttl]] w λe w'=>e= .returned (.bool (Zx v))/\Kp No w w':=by
 obtain ⟨z,hz⟩: ∃z,z=Zx v:=⟨_,rfl⟩;rw [<-hz] at HR⊢;clear hz;have Yx:=λw=>Vq v.m v.c w;simp only [HB.out] at Yx;have HQ:=zz Yx;clear Yx;go_enter Tryz.func54,Tryz.ntmps54
 go_wp2_with fail
 refine (HQ.out _).mono ?_;rintro e w' ⟨rfl,hk⟩;have hk':Kp No w w':=(zK.alloc _).trans_same hk;have hc:=hk.get (heap_alloc_new w _) λx=>x;have c2:=Q0 hc 2;have c3:=Q0 hc 3;have c4:=Q0 hc 4;have c5:=Q0 hc 5;have hlt:=Q3 hc;simp at c2 c3 c4 c5
 clear hc hk;have hun: ∀b:Bool,(undef=Value.bool b)=False:=λb=>by unfold undef;simp
 go_wp2_with fail
 all_goals
  go_ret
  exact ⟨by rw [HR.out];rfl,hk'⟩
theorem Qj0 (v:Qf) (a:Option Addr) (cap:Nat) (w:World) (HB:Hid (Jp v.m v.c=true)) (d1:decide (v.o<0)=false) (d2:decide (5<=v.o)=false) (d3:decide ((1024:Int)<(v.val.length:Int))=false) (_:decide (1024<v.val.length)=false) (d4:decide (v.ttl<0)=false) (d5:decide (281474976710655<v.ttl)=false) (db:v.gone=true) (dc:((v.val.length:Int)==0)=true) (_:(v.val.length==0)=true) (dd:(v.ttl==0)=true) (HR:Hid (Zx v=true)):
  Calls Tryz.prog 54 #[.agg #[.int .i64 v.m, .int .i64 v.c, .int .i64 v.o, .slice a v.val.length cap, .bool v.gone, .int .i64 v.ttl]] w λe w'=>e= .returned (.bool (Zx v))/\Kp No w w':=by
 obtain ⟨z,hz⟩: ∃z,z=Zx v:=⟨_,rfl⟩;rw [<-hz] at HR⊢;clear hz;have Yx:=λw=>Vq v.m v.c w;simp only [HB.out] at Yx;have HQ:=zz Yx;clear Yx;go_enter Tryz.func54,Tryz.ntmps54
 go_wp2_with fail
 refine (HQ.out _).mono ?_;rintro e w' ⟨rfl,hk⟩;have hk':Kp No w w':=(zK.alloc _).trans_same hk;have hc:=hk.get (heap_alloc_new w _) λx=>x;have c2:=Q0 hc 2;have c3:=Q0 hc 3;have c4:=Q0 hc 4;have c5:=Q0 hc 5;have hlt:=Q3 hc;simp at c2 c3 c4 c5
 clear hc hk;have hun: ∀b:Bool,(undef=Value.bool b)=False:=λb=>by unfold undef;simp
 go_wp2_with fail
 all_goals
  go_ret
  exact ⟨by rw [HR.out];rfl,hk'⟩
structure J4f (v:Qf):Prop where
 st:Jp v.m v.c=true
 o0: ¬v.o<0
 o5: ¬5<=v.o
 vl: ¬(1024:Int)<(v.val.length:Int)
 t0: ¬v.ttl<0
 t1: ¬281474976710655<v.ttl
 gg:v.gone=true->(v.val.length:Int)=0/\v.ttl=0
theorem Qh6 {v:Qf}:Zx v=true↔J4f v:=by
 rw [Zo,<-Zh];constructor
 ·rintro ⟨st,o0,o5,vl,t0,t1,gg⟩;exact ⟨st,by omega,by omega,by omega,by omega,by omega,λh=>⟨by have:=gg h;omega,(gg h).2⟩⟩
 ·rintro ⟨st,o0,o5,vl,t0,t1,gg⟩;exact ⟨st,by omega,by omega,by omega,by omega,by omega,λh=>⟨by have:=gg h;omega,(gg h).2⟩⟩
theorem Oh {v:Qf} (h: ¬J4f v):Zx v=false:=by
 cases hh:Zx v with
 |false=>rfl
 |true=>exact absurd (Qh6.1 hh) h
theorem Ut (x:Qd) (w:World):Calls Tryz.prog 54 #[Y0 x] w λe w'=>e= .returned (.bool (Zx x.v))/\Kp No w w':=by
 obtain ⟨v,a,cap⟩:=x;unfold Y0 Qg Qd.sl;simp only
 cases b1:Jp v.m v.c with
 |false=>exact Qnb v a cap w (zz b1) (zz (Oh λh=>absurd h.st (by rw [b1];decide)))
 |true=>
 cases d1:decide (v.o<0) with
 |true=>exact Qn3 v a cap w (zz b1) d1 (zz (Oh λh=>h.o0 (of_decide_eq_true d1)))
 |false=>
 cases d2:decide (5<=v.o) with
 |true=>exact Qn4 v a cap w (zz b1) d1 d2 (zz (Oh λh=>h.o5 (of_decide_eq_true d2)))
 |false=>
 cases d3:decide ((1024:Int)<(v.val.length:Int)) with
 |true=>exact Qn5 v a cap w (zz b1) d1 d2 d3 (Qr (by omega) d3) (zz (Oh λh=>h.vl (of_decide_eq_true d3)))
 |false=>
 cases d4:decide (v.ttl<0) with
 |true=>exact Qn6 v a cap w (zz b1) d1 d2 d3 (Qr (by omega) d3) d4 (zz (Oh λh=>h.t0 (of_decide_eq_true d4)))
 |false=>
 cases d5:decide (281474976710655<v.ttl) with
 |true=>exact Qn7 v a cap w (zz b1) d1 d2 d3 (Qr (by omega) d3) d4 d5 (zz (Oh λh=>h.t1 (of_decide_eq_true d5)))
 |false=>
 rcases Bool.eq_false_or_eq_true v.gone with db|db
 rotate_left
 ·exact Qn8 v a cap w (zz b1) d1 d2 d3 (Qr (by omega) d3) d4 d5 db (zz (Qh6.2 ⟨b1,of_decide_eq_false d1,of_decide_eq_false d2,of_decide_eq_false d3,of_decide_eq_false d4,of_decide_eq_false d5,λh=>absurd h (by rw [db];decide)⟩))
 cases dc:((v.val.length:Int)==0) with
 |false=>exact Qn9 v a cap w (zz b1) d1 d2 d3 (Qr (by omega) d3) d4 d5 db dc (Ge dc) (zz (Oh λh=>ne_of_beq_false dc (h.gg db).1))
 |true=>
 cases dd:(v.ttl==0) with
 |false=>exact Qna v a cap w (zz b1) d1 d2 d3 (Qr (by omega) d3) d4 d5 db dc (Ge dc) dd (zz (Oh λh=>ne_of_beq_false dd (h.gg db).2))
 |true=>
 exact Qj0 v a cap w (zz b1) d1 d2 d3 (Qr (by omega) d3) d4 d5 db dc (Ge dc) dd (zz (Qh6.2 ⟨b1,of_decide_eq_false d1,of_decide_eq_false d2,of_decide_eq_false d3,of_decide_eq_false d4,of_decide_eq_false d5,λ_=>⟨eq_of_beq dc,eq_of_beq dd⟩⟩))
theorem Qiw (x:Qd) (w:World) (hx:x.rd w) (hl:x.v.val.length<=140737488355328):
  Calls Tryz.prog 132 #[Y0 x] w λe w'=> ∃y:Qd,y.v=x.v/\e= .returned (Y0 y)/\y.ok w'/\(∀g,y.sl.ownBlock=some g->w.heap.size<=g)/\Kp No w w':=by
 obtain ⟨v,a,cap⟩:=x;obtain ⟨hR,hc,_⟩:=hx;simp only at hR hc hl⊢
 unfold Y0 Qg Qd.sl;simp only
 obtain ⟨W2,hW2⟩: ∃W,W=(w.alloc (.cells #[.int .i64 v.m, .int .i64 v.c, .int .i64 v.o, .slice a v.val.length cap, .bool v.gone, .int .i64 v.ttl] 44)).alloc (.cells #[.int .i64 0, .int .i64 0, .int .i64 0, .slice none 0 0, .bool false, .int .i64 0] 44):=⟨_,rfl⟩;have k2:Kp No w W2:=by rw [hW2];exact (zK.alloc _).alloc _
 have b1:W2.heap[w.heap.size]?=some (.cells #[.int .i64 v.m, .int .i64 v.c, .int .i64 v.o, .slice a v.val.length cap, .bool v.gone, .int .i64 v.ttl] 44 (0,0)):=by rw [hW2];exact J6 (heap_alloc_new w _) _
 have b2:W2.heap[w.heap.size+1]?=some (.cells #[.int .i64 0, .int .i64 0, .int .i64 0, .slice none 0 0, .bool false, .int .i64 0] 44 (0,0)):=by rw [hW2];exact (congrArg (λk=>((w.alloc _).alloc _).heap[k]?) (by simp)).trans (heap_alloc_new (w.alloc _) _)
 have hal:Kp No W2 (W2.alloc (.cells #[] 5)):=zK.alloc _;have hown0:Own (W2.alloc (.cells #[] 5)) 5 1 (.slice (some ⟨W2.heap.size,0,none⟩) 0 0) 0 []:=Own.made W2 5 1 #[] 0 0 (Nat.le_refl _) (by simp [maxLen]) (by simp) rfl
 have hsrc:Mer.Src (W2.alloc (.cells #[] 5)) 1 (.slice a v.val.length cap) v.val.length (u8s v.val):=⟨by simp [Zz],a,cap,rfl,λhx=>by
  obtain ⟨g,off,h1,h2,h3,h4⟩:=Rd.kp hR k2 hx;exact ⟨g,off,h1,by simp;omega,Nat.le_refl _,λj u hu=>(hal.cell (p:=⟨g,off+j,none⟩) (by show g<_;omega) (λx=>x)).trans (h4 j u hu)⟩⟩
 obtain ⟨i0,hi,hz0,hz1,hz2⟩:=info_parts infoByte
 obtain ⟨u,w3,hrun,hown,hkp,hblk⟩:=Jk (P:=Tryz.prog) (w:=W2.alloc (.cells #[] 5)) 42 42 42 5 i0 (.int .u8 0) 1 1 Tryz.underlying42 ⟨_,Tryz.underlying42⟩ hi hz0 hz1 hz2 rfl
  (.slice (some ⟨W2.heap.size,0,none⟩) 0 0) 0 [] hown0 (.slice a v.val.length cap) v.val.length (u8s v.val) hsrc (Kk v.val) (by simp only [maxLen];omega) (by omega)
 rw [Nat.zero_add,List.nil_append] at hown;have hk:Kp No W2 w3:=hal.trans hkp (λk hk h=>by simp [Value.ownBlock] at h;omega)
 have hf: ∀g,u.ownBlock=some g->W2.heap.size<=g:=λg hg=>by
  rcases hblk with h|⟨g',h,h'⟩
  ·rw [h] at hg;simp [Value.ownBlock] at hg
   omega
  ·rw [h] at hg;injection hg with hg;simp at h'
   omega
 clear hal hown0 hsrc hi hz0 hz1 hz2 hkp hblk;obtain ⟨n,hn⟩: ∃n,n=v.val.length:=⟨_,rfl⟩;rw [<-hn] at hrun hown b1 hW2⊢;have c3:=Q0 b1 3;have hl1:=Q3 b1;simp at c3
 have HB:=zz (And.intro b1 b2);have Qz:=zz k2;obtain ⟨_,a1,c1,rfl,_⟩:=id hown;have Qpd:=zz hrun;have HN:=zz hn;have HW2:=zz hW2;have ho:=hown;clear b1 b2 k2 hrun hown hn hR hc hl;have b1:=hk.get HB.out.1 λx=>x;have b2:=hk.get HB.out.2 λx=>x;have f1:=Qc b1 3;have d3:=Q0 b1 3;have hl1:=Q3 b1;simp at d3
 have HB1:=zz b1;have HB2:=zz b2;have HO:=zz (And.intro ho (And.intro (λg hg=>Nat.le_trans Qz.out.size (hf g hg)) (Qz.out.trans_same hk)));clear ho hf hk b1 b2 HB Qz hW2;go_enter Tryz.func132,Tryz.ntmps132
 go_upto_region 1 with fail
 (try rw [<-HW2.out])
 go_upto_region 2 with (at_builtin;refine wpList_append_run rfl rfl rfl rfl Qpd.out ?_)
 obtain ⟨W4,Ng⟩: ∃W,W=w3.setCell ⟨w.heap.size,3,none⟩ (.slice a1 n c1):=⟨_,rfl⟩;have k4:Kp (Mer.One w.heap.size) w3 W4:=by rw [Ng];exact (Kp.refl (Mer.One w.heap.size) _).setCell (p:=⟨w.heap.size,3,none⟩) (.inl (show Mer.One w.heap.size w.heap.size from rfl)) _
 have b4:=Qh HB1.out 3 (.slice a1 n c1);rw [<-Ng] at b4;have HR1:=zz (show W4.rangeAt w.heap.size 0 [.int .i64 v.m, .int .i64 v.c, .int .i64 v.o, .slice a1 n c1, .bool v.gone, .int .i64 v.ttl] from Qb b4 0 6);have HB4:=zz (k4.get HB2.out λe=>by have e:w.heap.size+1=w.heap.size:=e;omega);have Ox:=zz k4;rw [<-Ng];clear Ng k4 b4 f1 d3 hl1
 go_wp2_with (first
  |(refine Qe rfl 44 _ rfl w.heap.size 0 rfl _ _ HR1 Tryz.underlying44 rfl (by kernel_rfl) ?_)
  |(refine Zi rfl 44 _ _ rfl (w.heap.size+1) _ rfl rfl 44 _ HB4 (by kernel_rfl) (by rfl) (by rfl) ?_))
 obtain ⟨W5,Dk⟩: ∃W,W=W4.setRow (w.heap.size+1) #[.int .i64 v.m, .int .i64 v.c, .int .i64 v.o, .slice a1 n c1, .bool v.gone, .int .i64 v.ttl]:=⟨_,rfl⟩;have k5:Kp (Mer.One (w.heap.size+1)) W4 W5:=by rw [Dk];exact (Kp.refl (Mer.One (w.heap.size+1)) _).setRow (.inl (show Mer.One (w.heap.size+1) (w.heap.size+1) from rfl)) _
 have b5:=U7 (cs:= #[.int .i64 v.m, .int .i64 v.c, .int .i64 v.o, .slice a1 n c1, .bool v.gone, .int .i64 v.ttl]) HB4.out;rw [<-Dk] at b5;have d0:=Q0 b5 0;have d1:=Q0 b5 1;have d2:=Q0 b5 2;have d3:=Q0 b5 3;have d4:=Q0 b5 4;have d5:=Q0 b5 5;simp at d0 d1 d2 d3 d4 d5
 (try rw [<-Dk])
 have Qo6:Kp (λk=>k=w.heap.size\/k=w.heap.size+1) w3 W5:=(Ox.out.mono λ_ _ h=> .inl h).trans k5 λ_ _ h=> .inr h;refine bodyPost_ret (v:= .agg #[.int .i64 v.m, .int .i64 v.c, .int .i64 v.o, .slice a1 n c1, .bool v.gone, .int .i64 v.ttl]) (by simp [results,Tryz.results132,go_sem,d0,d1,d2,d3,d4,d5]) rfl ⟨⟨v,a1,c1⟩,rfl,?_,?_,?_,?_⟩
 ·rw [show n=_ from HN.out]
 ·have h:Own w3 5 1 (.slice a1 v.val.length c1) v.val.length (u8s v.val):=by rw [<-show n=_ from HN.out];exact HO.out.1
  exact h.keep Qo6 λg hg hS=>by
   obtain ⟨cur,Uu⟩:=h.type g hg;rcases hS with rfl|rfl
   ·exact Q7 Uu HB1.out (by decide) rfl
   ·exact Q7 Uu HB2.out (by decide) rfl
 ·intro g hg;rw [<-show n=_ from HN.out] at hg;exact HO.out.2.1 g hg
 ·exact HO.out.2.2.trans Qo6 λi hi hS=>by rcases hS with rfl|rfl<;>omega
theorem Qs3 (r:Qx) (a:Option Addr) (cap:Nat) (w:World) (HB:Hid (Zx r.v=false)) (HR:Hid (Jv r=false)):
  Calls Tryz.prog 17 #[.agg #[.int .i64 r.o, .int .i64 r.seq, .string r.key, .int .i64 r.v.m, .int .i64 r.v.c, .int .i64 r.v.o, .slice a r.v.val.length cap, .bool r.v.gone, .int .i64 r.v.ttl]] w λe w'=>e= .returned (.bool (Jv r))/\Kp No w w':=by
 obtain ⟨z,hz⟩: ∃z,z=Jv r:=⟨_,rfl⟩;rw [<-hz] at HR⊢;clear hz;have Yx:=λw=>Ut ⟨r.v,a,cap⟩ w;unfold Y0 Qg Qd.sl at Yx;simp only [HB.out] at Yx;have HQ:=zz Yx;clear Yx;go_enter Tryz.func17,Tryz.ntmps17
 go_wp2_with fail
 refine (HQ.out _).mono ?_;rintro e w' ⟨rfl,hk⟩;have hk':Kp No w w':=(zK.alloc _).trans_same hk;have hc:=hk.get (heap_alloc_new w _) λx=>x;have c0:=Q0 hc 0;have c1:=Q0 hc 1;have c2:=Q0 hc 2;have c5:=Q0 hc 5;have hlt:=Q3 hc;simp at c0 c1 c2 c5
 clear hc hk;have hun: ∀b:Bool,(undef=Value.bool b)=False:=λb=>by unfold undef;simp
 go_wp2_with fail
 all_goals
  go_ret
  exact ⟨by rw [HR.out];rfl,hk'⟩
theorem Qry (r:Qx) (a:Option Addr) (cap:Nat) (w:World) (HB:Hid (Zx r.v=true)) (d1:(r.v.o==r.o)=false) (HR:Hid (Jv r=false)):
  Calls Tryz.prog 17 #[.agg #[.int .i64 r.o, .int .i64 r.seq, .string r.key, .int .i64 r.v.m, .int .i64 r.v.c, .int .i64 r.v.o, .slice a r.v.val.length cap, .bool r.v.gone, .int .i64 r.v.ttl]] w λe w'=>e= .returned (.bool (Jv r))/\Kp No w w':=by
 obtain ⟨z,hz⟩: ∃z,z=Jv r:=⟨_,rfl⟩;rw [<-hz] at HR⊢;clear hz;have Yx:=λw=>Ut ⟨r.v,a,cap⟩ w;unfold Y0 Qg Qd.sl at Yx;simp only [HB.out] at Yx;have HQ:=zz Yx;clear Yx;go_enter Tryz.func17,Tryz.ntmps17
 go_wp2_with fail
 refine (HQ.out _).mono ?_;rintro e w' ⟨rfl,hk⟩;have hk':Kp No w w':=(zK.alloc _).trans_same hk;have hc:=hk.get (heap_alloc_new w _) λx=>x;have c0:=Q0 hc 0;have c1:=Q0 hc 1;have c2:=Q0 hc 2;have c5:=Q0 hc 5;have hlt:=Q3 hc;simp at c0 c1 c2 c5
 clear hc hk;have hun: ∀b:Bool,(undef=Value.bool b)=False:=λb=>by unfold undef;simp
 go_wp2_with fail
 all_goals
  go_ret
  exact ⟨by rw [HR.out];rfl,hk'⟩
theorem Qrz (r:Qx) (a:Option Addr) (cap:Nat) (w:World) (HB:Hid (Zx r.v=true)) (d1:(r.v.o==r.o)=true) (d2:decide (1<=r.seq)=false) (HR:Hid (Jv r=false)):
  Calls Tryz.prog 17 #[.agg #[.int .i64 r.o, .int .i64 r.seq, .string r.key, .int .i64 r.v.m, .int .i64 r.v.c, .int .i64 r.v.o, .slice a r.v.val.length cap, .bool r.v.gone, .int .i64 r.v.ttl]] w λe w'=>e= .returned (.bool (Jv r))/\Kp No w w':=by
 obtain ⟨z,hz⟩: ∃z,z=Jv r:=⟨_,rfl⟩;rw [<-hz] at HR⊢;clear hz;have Yx:=λw=>Ut ⟨r.v,a,cap⟩ w;unfold Y0 Qg Qd.sl at Yx;simp only [HB.out] at Yx;have HQ:=zz Yx;clear Yx;go_enter Tryz.func17,Tryz.ntmps17
 go_wp2_with fail
 refine (HQ.out _).mono ?_;rintro e w' ⟨rfl,hk⟩;have hk':Kp No w w':=(zK.alloc _).trans_same hk;have hc:=hk.get (heap_alloc_new w _) λx=>x;have c0:=Q0 hc 0;have c1:=Q0 hc 1;have c2:=Q0 hc 2;have c5:=Q0 hc 5;have hlt:=Q3 hc;simp at c0 c1 c2 c5
 clear hc hk;have hun: ∀b:Bool,(undef=Value.bool b)=False:=λb=>by unfold undef;simp
 go_wp2_with fail
 all_goals
  go_ret
  exact ⟨by rw [HR.out];rfl,hk'⟩
theorem Qs0 (r:Qx) (a:Option Addr) (cap:Nat) (w:World) (HB:Hid (Zx r.v=true)) (d1:(r.v.o==r.o)=true) (d2:decide (1<=r.seq)=true) (d3:decide (r.seq<=1099511627776)=false) (HR:Hid (Jv r=false)):
  Calls Tryz.prog 17 #[.agg #[.int .i64 r.o, .int .i64 r.seq, .string r.key, .int .i64 r.v.m, .int .i64 r.v.c, .int .i64 r.v.o, .slice a r.v.val.length cap, .bool r.v.gone, .int .i64 r.v.ttl]] w λe w'=>e= .returned (.bool (Jv r))/\Kp No w w':=by
 obtain ⟨z,hz⟩: ∃z,z=Jv r:=⟨_,rfl⟩;rw [<-hz] at HR⊢;clear hz;have Yx:=λw=>Ut ⟨r.v,a,cap⟩ w;unfold Y0 Qg Qd.sl at Yx;simp only [HB.out] at Yx;have HQ:=zz Yx;clear Yx;go_enter Tryz.func17,Tryz.ntmps17
 go_wp2_with fail
 refine (HQ.out _).mono ?_;rintro e w' ⟨rfl,hk⟩;have hk':Kp No w w':=(zK.alloc _).trans_same hk;have hc:=hk.get (heap_alloc_new w _) λx=>x;have c0:=Q0 hc 0;have c1:=Q0 hc 1;have c2:=Q0 hc 2;have c5:=Q0 hc 5;have hlt:=Q3 hc;simp at c0 c1 c2 c5
 clear hc hk;have hun: ∀b:Bool,(undef=Value.bool b)=False:=λb=>by unfold undef;simp
 go_wp2_with fail
 all_goals
  go_ret
  exact ⟨by rw [HR.out];rfl,hk'⟩
theorem Qs1 (r:Qx) (a:Option Addr) (cap:Nat) (w:World) (HB:Hid (Zx r.v=true)) (d1:(r.v.o==r.o)=true) (d2:decide (1<=r.seq)=true) (d3:decide (r.seq<=1099511627776)=true) (d4:decide (1<=(r.key.size:Int))=false) (_:decide (1<=r.key.size)=false) (HR:Hid (Jv r=false)):
  Calls Tryz.prog 17 #[.agg #[.int .i64 r.o, .int .i64 r.seq, .string r.key, .int .i64 r.v.m, .int .i64 r.v.c, .int .i64 r.v.o, .slice a r.v.val.length cap, .bool r.v.gone, .int .i64 r.v.ttl]] w λe w'=>e= .returned (.bool (Jv r))/\Kp No w w':=by
 obtain ⟨z,hz⟩: ∃z,z=Jv r:=⟨_,rfl⟩;rw [<-hz] at HR⊢;clear hz;have Yx:=λw=>Ut ⟨r.v,a,cap⟩ w;unfold Y0 Qg Qd.sl at Yx;simp only [HB.out] at Yx;have HQ:=zz Yx;clear Yx;go_enter Tryz.func17,Tryz.ntmps17
 go_wp2_with fail
 refine (HQ.out _).mono ?_;rintro e w' ⟨rfl,hk⟩;have hk':Kp No w w':=(zK.alloc _).trans_same hk;have hc:=hk.get (heap_alloc_new w _) λx=>x;have c0:=Q0 hc 0;have c1:=Q0 hc 1;have c2:=Q0 hc 2;have c5:=Q0 hc 5;have hlt:=Q3 hc;simp at c0 c1 c2 c5
 clear hc hk;have hun: ∀b:Bool,(undef=Value.bool b)=False:=λb=>by unfold undef;simp
 go_wp2_with fail
 all_goals
  go_ret
  exact ⟨by rw [HR.out];rfl,hk'⟩
theorem Qs2 (r:Qx) (a:Option Addr) (cap:Nat) (w:World) (HB:Hid (Zx r.v=true)) (d1:(r.v.o==r.o)=true) (d2:decide (1<=r.seq)=true) (d3:decide (r.seq<=1099511627776)=true) (d4:decide (1<=(r.key.size:Int))=true) (_:decide (1<=r.key.size)=true) (d5:decide ((r.key.size:Int)<=64)=false) (_:decide (r.key.size<=64)=false) (HR:Hid (Jv r=false)):
  Calls Tryz.prog 17 #[.agg #[.int .i64 r.o, .int .i64 r.seq, .string r.key, .int .i64 r.v.m, .int .i64 r.v.c, .int .i64 r.v.o, .slice a r.v.val.length cap, .bool r.v.gone, .int .i64 r.v.ttl]] w λe w'=>e= .returned (.bool (Jv r))/\Kp No w w':=by
 obtain ⟨z,hz⟩: ∃z,z=Jv r:=⟨_,rfl⟩;rw [<-hz] at HR⊢;clear hz;have Yx:=λw=>Ut ⟨r.v,a,cap⟩ w;unfold Y0 Qg Qd.sl at Yx;simp only [HB.out] at Yx;have HQ:=zz Yx;clear Yx;go_enter Tryz.func17,Tryz.ntmps17
 go_wp2_with fail
 refine (HQ.out _).mono ?_;rintro e w' ⟨rfl,hk⟩;have hk':Kp No w w':=(zK.alloc _).trans_same hk;have hc:=hk.get (heap_alloc_new w _) λx=>x;have c0:=Q0 hc 0;have c1:=Q0 hc 1;have c2:=Q0 hc 2;have c5:=Q0 hc 5;have hlt:=Q3 hc;simp at c0 c1 c2 c5
 clear hc hk;have hun: ∀b:Bool,(undef=Value.bool b)=False:=λb=>by unfold undef;simp
 go_wp2_with fail
 all_goals
  go_ret
  exact ⟨by rw [HR.out];rfl,hk'⟩
theorem Qn2 (r:Qx) (a:Option Addr) (cap:Nat) (w:World) (HB:Hid (Zx r.v=true)) (d1:(r.v.o==r.o)=true) (d2:decide (1<=r.seq)=true) (d3:decide (r.seq<=1099511627776)=true) (d4:decide (1<=(r.key.size:Int))=true) (_:decide (1<=r.key.size)=true) (d5:decide ((r.key.size:Int)<=64)=true) (_:decide (r.key.size<=64)=true) (HR:Hid (Jv r=true)):
  Calls Tryz.prog 17 #[.agg #[.int .i64 r.o, .int .i64 r.seq, .string r.key, .int .i64 r.v.m, .int .i64 r.v.c, .int .i64 r.v.o, .slice a r.v.val.length cap, .bool r.v.gone, .int .i64 r.v.ttl]] w λe w'=>e= .returned (.bool (Jv r))/\Kp No w w':=by
 obtain ⟨z,hz⟩: ∃z,z=Jv r:=⟨_,rfl⟩;rw [<-hz] at HR⊢;clear hz;have Yx:=λw=>Ut ⟨r.v,a,cap⟩ w;unfold Y0 Qg Qd.sl at Yx;simp only [HB.out] at Yx;have HQ:=zz Yx;clear Yx;go_enter Tryz.func17,Tryz.ntmps17
 go_wp2_with fail
 refine (HQ.out _).mono ?_;rintro e w' ⟨rfl,hk⟩;have hk':Kp No w w':=(zK.alloc _).trans_same hk;have hc:=hk.get (heap_alloc_new w _) λx=>x;have c0:=Q0 hc 0;have c1:=Q0 hc 1;have c2:=Q0 hc 2;have c5:=Q0 hc 5;have hlt:=Q3 hc;simp at c0 c1 c2 c5
 clear hc hk;have hun: ∀b:Bool,(undef=Value.bool b)=False:=λb=>by unfold undef;simp
 go_wp2_with fail
 all_goals
  go_ret
  exact ⟨by rw [HR.out];rfl,hk'⟩
theorem Db {r:Qx} (h: ¬(Zx r.v=true/\r.v.o=r.o/\1<=r.seq/\r.seq<=1099511627776/\1<=(r.key.size:Int)/\(r.key.size:Int)<=64)):Jv r=false:=by
 cases hh:Jv r with
 |false=>rfl
 |true=>
  obtain ⟨h1,h2,h3,h4,h5,h6⟩:=Yw.1 hh;exact absurd ⟨h1,h2,h3,h4,by omega,by omega⟩ h
theorem Qaw (x:Qa) (w:World):Calls Tryz.prog 17 #[Ig x] w λe w'=>e= .returned (.bool (Jv x.r))/\Kp No w w':=by
 obtain ⟨r,a,cap⟩:=x;unfold Ig recC Qa.sl;simp only
 cases b1:Zx r.v with
 |false=>exact Qs3 r a cap w (zz b1) (zz (Db λh=>absurd h.1 (by rw [b1];decide)))
 |true=>
 cases d1:(r.v.o==r.o) with
 |false=>exact Qry r a cap w (zz b1) d1 (zz (Db λh=>ne_of_beq_false d1 h.2.1))
 |true=>
 cases d2:decide (1<=r.seq) with
 |false=>exact Qrz r a cap w (zz b1) d1 d2 (zz (Db λh=>of_decide_eq_false d2 h.2.2.1))
 |true=>
 cases d3:decide (r.seq<=1099511627776) with
 |false=>exact Qs0 r a cap w (zz b1) d1 d2 d3 (zz (Db λh=>of_decide_eq_false d3 h.2.2.2.1))
 |true=>
 cases d4:decide (1<=(r.key.size:Int)) with
 |false=>exact Qs1 r a cap w (zz b1) d1 d2 d3 d4 (Qr (by omega) d4) (zz (Db λh=>of_decide_eq_false d4 h.2.2.2.2.1))
 |true=>
 cases d5:decide ((r.key.size:Int)<=64) with
 |false=>exact Qs2 r a cap w (zz b1) d1 d2 d3 d4 (Qr (by omega) d4) d5 (Qr (by omega) d5) (zz (Db λh=>of_decide_eq_false d5 h.2.2.2.2.2))
 |true=>
 refine Qn2 r a cap w (zz b1) d1 d2 d3 d4 (Qr (by omega) d4) d5 (Qr (by omega) d5) (zz (Yw.2 ⟨b1,eq_of_beq d1,of_decide_eq_true d2,of_decide_eq_true d3,?_,?_⟩))
 ·have:=of_decide_eq_true d4;omega
 ·have:=of_decide_eq_true d5;omega
end Go.Proofs.YtgnkmjeoaoongaaGreatDoor
