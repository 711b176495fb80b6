/-
  SRecB.
-/
import Derived.Test.YtgnkmjeoaoongaaGreatDoorXb5
set_option maxRecDepth 100000
set_option maxHeartbeats 2000000
namespace Go.Proofs.YtgnkmjeoaoongaaGreatDoor
open Go.RowKit Go.Mer
theorem Qma (r:Qx) (a:Option Addr) (cap:Nat) (w:World) (HB:Hid (Jp r.v.m r.v.c=true)) (d1:decide (0<=r.o)=true) (d2:decide (r.o<5)=true) (d3:decide (1<=r.seq)=true) (d4:decide (r.seq<=1099511627776)=true) (d5:decide (1<=(r.key.size:Int))=false) (_:decide (1<=r.key.size)=false) (HR:Hid (Jv r=false)):
  Calls Tryz.prog 109 #[.agg #[.int .i64 r.o, .int .i64 r.seq, .string r.key, .int .i64 r.v.m, .int .i64 r.v.c, .int .i64 r.v.o, .slice a r.v.val.length cap, .bool r.v.gone, .int .i64 r.v.ttl]] w λe w'=>e= .returned (.bool (Jv r))/\Kp No w w':=by
 obtain ⟨z,hz⟩: ∃z,z=Jv r:=⟨_,rfl⟩;rw [<-hz] at HR⊢;clear hz;go_enter Tryz.func109,Tryz.ntmps109
 go_wp2_with fail
 first|(refine (Zn _ _ _ HB.out).mono ?_)|(refine (Z2 _ _ _ HB.out).mono ?_)
 rintro e w' ⟨rfl,hk⟩;have hk':Kp No w w':=(zK.alloc _).trans_same hk;have hc:=hk.get (heap_alloc_new w _) λx=>x;have c0:=Q0 hc 0;have c1:=Q0 hc 1;have c2:=Q0 hc 2;have c5:=Q0 hc 5;have c6:=Q0 hc 6;have c7:=Q0 hc 7;have c8:=Q0 hc 8;have hlt:=Q3 hc;simp at c0 c1 c2 c5 c6 c7 c8
 clear hc hk;have hun: ∀b:Bool,(undef=Value.bool b)=False:=λb=>by unfold undef;simp
 go_wp2_with fail
 all_goals
  go_ret
  exact ⟨by rw [HR.out];rfl,hk'⟩
theorem Qmb (r:Qx) (a:Option Addr) (cap:Nat) (w:World) (HB:Hid (Jp r.v.m r.v.c=true)) (d1:decide (0<=r.o)=true) (d2:decide (r.o<5)=true) (d3:decide (1<=r.seq)=true) (d4:decide (r.seq<=1099511627776)=true) (d5:decide (1<=(r.key.size:Int))=true) (_:decide (1<=r.key.size)=true) (d6:decide ((r.key.size:Int)<=64)=false) (_:decide (r.key.size<=64)=false) (HR:Hid (Jv r=false)):
  Calls Tryz.prog 109 #[.agg #[.int .i64 r.o, .int .i64 r.seq, .string r.key, .int .i64 r.v.m, .int .i64 r.v.c, .int .i64 r.v.o, .slice a r.v.val.length cap, .bool r.v.gone, .int .i64 r.v.ttl]] w λe w'=>e= .returned (.bool (Jv r))/\Kp No w w':=by
 obtain ⟨z,hz⟩: ∃z,z=Jv r:=⟨_,rfl⟩;rw [<-hz] at HR⊢;clear hz;go_enter Tryz.func109,Tryz.ntmps109
 go_wp2_with fail
 first|(refine (Zn _ _ _ HB.out).mono ?_)|(refine (Z2 _ _ _ HB.out).mono ?_)
 rintro e w' ⟨rfl,hk⟩;have hk':Kp No w w':=(zK.alloc _).trans_same hk;have hc:=hk.get (heap_alloc_new w _) λx=>x;have c0:=Q0 hc 0;have c1:=Q0 hc 1;have c2:=Q0 hc 2;have c5:=Q0 hc 5;have c6:=Q0 hc 6;have c7:=Q0 hc 7;have c8:=Q0 hc 8;have hlt:=Q3 hc;simp at c0 c1 c2 c5 c6 c7 c8
 clear hc hk;have hun: ∀b:Bool,(undef=Value.bool b)=False:=λb=>by unfold undef;simp
 go_wp2_with fail
 all_goals
  go_ret
  exact ⟨by rw [HR.out];rfl,hk'⟩
theorem Qmc (r:Qx) (a:Option Addr) (cap:Nat) (w:World) (HB:Hid (Jp r.v.m r.v.c=true)) (d1:decide (0<=r.o)=true) (d2:decide (r.o<5)=true) (d3:decide (1<=r.seq)=true) (d4:decide (r.seq<=1099511627776)=true) (d5:decide (1<=(r.key.size:Int))=true) (_:decide (1<=r.key.size)=true) (d6:decide ((r.key.size:Int)<=64)=true) (_:decide (r.key.size<=64)=true) (d7:(r.v.o==r.o)=false) (HR:Hid (Jv r=false)):
  Calls Tryz.prog 109 #[.agg #[.int .i64 r.o, .int .i64 r.seq, .string r.key, .int .i64 r.v.m, .int .i64 r.v.c, .int .i64 r.v.o, .slice a r.v.val.length cap, .bool r.v.gone, .int .i64 r.v.ttl]] w λe w'=>e= .returned (.bool (Jv r))/\Kp No w w':=by
 obtain ⟨z,hz⟩: ∃z,z=Jv r:=⟨_,rfl⟩;rw [<-hz] at HR⊢;clear hz;go_enter Tryz.func109,Tryz.ntmps109
 go_wp2_with fail
 first|(refine (Zn _ _ _ HB.out).mono ?_)|(refine (Z2 _ _ _ HB.out).mono ?_)
 rintro e w' ⟨rfl,hk⟩;have hk':Kp No w w':=(zK.alloc _).trans_same hk;have hc:=hk.get (heap_alloc_new w _) λx=>x;have c0:=Q0 hc 0;have c1:=Q0 hc 1;have c2:=Q0 hc 2;have c5:=Q0 hc 5;have c6:=Q0 hc 6;have c7:=Q0 hc 7;have c8:=Q0 hc 8;have hlt:=Q3 hc;simp at c0 c1 c2 c5 c6 c7 c8
 clear hc hk;have hun: ∀b:Bool,(undef=Value.bool b)=False:=λb=>by unfold undef;simp
 go_wp2_with fail
 all_goals
  go_ret
  exact ⟨by rw [HR.out];rfl,hk'⟩
theorem Qmd (r:Qx) (a:Option Addr) (cap:Nat) (w:World) (HB:Hid (Jp r.v.m r.v.c=true)) (d1:decide (0<=r.o)=true) (d2:decide (r.o<5)=true) (d3:decide (1<=r.seq)=true) (d4:decide (r.seq<=1099511627776)=true) (d5:decide (1<=(r.key.size:Int))=true) (_:decide (1<=r.key.size)=true) (d6:decide ((r.key.size:Int)<=64)=true) (_:decide (r.key.size<=64)=true) (d7:(r.v.o==r.o)=true) (d8:decide ((r.v.val.length:Int)<=1024)=false) (_:decide (r.v.val.length<=1024)=false) (HR:Hid (Jv r=false)):
  Calls Tryz.prog 109 #[.agg #[.int .i64 r.o, .int .i64 r.seq, .string r.key, .int .i64 r.v.m, .int .i64 r.v.c, .int .i64 r.v.o, .slice a r.v.val.length cap, .bool r.v.gone, .int .i64 r.v.ttl]] w λe w'=>e= .returned (.bool (Jv r))/\Kp No w w':=by
 obtain ⟨z,hz⟩: ∃z,z=Jv r:=⟨_,rfl⟩;rw [<-hz] at HR⊢;clear hz;go_enter Tryz.func109,Tryz.ntmps109
 go_wp2_with fail
 first|(refine (Zn _ _ _ HB.out).mono ?_)|(refine (Z2 _ _ _ HB.out).mono ?_)
 rintro e w' ⟨rfl,hk⟩;have hk':Kp No w w':=(zK.alloc _).trans_same hk;have hc:=hk.get (heap_alloc_new w _) λx=>x;have c0:=Q0 hc 0;have c1:=Q0 hc 1;have c2:=Q0 hc 2;have c5:=Q0 hc 5;have c6:=Q0 hc 6;have c7:=Q0 hc 7;have c8:=Q0 hc 8;have hlt:=Q3 hc;simp at c0 c1 c2 c5 c6 c7 c8
 clear hc hk;have hun: ∀b:Bool,(undef=Value.bool b)=False:=λb=>by unfold undef;simp
 go_wp2_with fail
 all_goals
  go_ret
  exact ⟨by rw [HR.out];rfl,hk'⟩
theorem Qme (r:Qx) (a:Option Addr) (cap:Nat) (w:World) (HB:Hid (Jp r.v.m r.v.c=true)) (d1:decide (0<=r.o)=true) (d2:decide (r.o<5)=true) (d3:decide (1<=r.seq)=true) (d4:decide (r.seq<=1099511627776)=true) (d5:decide (1<=(r.key.size:Int))=true) (_:decide (1<=r.key.size)=true) (d6:decide ((r.key.size:Int)<=64)=true) (_:decide (r.key.size<=64)=true) (d7:(r.v.o==r.o)=true) (d8:decide ((r.v.val.length:Int)<=1024)=true) (_:decide (r.v.val.length<=1024)=true) (d9:decide (0<=r.v.ttl)=false) (HR:Hid (Jv r=false)):
  Calls Tryz.prog 109 #[.agg #[.int .i64 r.o, .int .i64 r.seq, .string r.key, .int .i64 r.v.m, .int .i64 r.v.c, .int .i64 r.v.o, .slice a r.v.val.length cap, .bool r.v.gone, .int .i64 r.v.ttl]] w λe w'=>e= .returned (.bool (Jv r))/\Kp No w w':=by
 obtain ⟨z,hz⟩: ∃z,z=Jv r:=⟨_,rfl⟩;rw [<-hz] at HR⊢;clear hz;go_enter Tryz.func109,Tryz.ntmps109
 go_wp2_with fail
 first|(refine (Zn _ _ _ HB.out).mono ?_)|(refine (Z2 _ _ _ HB.out).mono ?_)
 rintro e w' ⟨rfl,hk⟩;have hk':Kp No w w':=(zK.alloc _).trans_same hk;have hc:=hk.get (heap_alloc_new w _) λx=>x;have c0:=Q0 hc 0;have c1:=Q0 hc 1;have c2:=Q0 hc 2;have c5:=Q0 hc 5;have c6:=Q0 hc 6;have c7:=Q0 hc 7;have c8:=Q0 hc 8;have hlt:=Q3 hc;simp at c0 c1 c2 c5 c6 c7 c8
 clear hc hk;have hun: ∀b:Bool,(undef=Value.bool b)=False:=λb=>by unfold undef;simp
 go_wp2_with fail
 all_goals
  go_ret
  exact ⟨by rw [HR.out];rfl,hk'⟩
end Go.Proofs.YtgnkmjeoaoongaaGreatDoor
