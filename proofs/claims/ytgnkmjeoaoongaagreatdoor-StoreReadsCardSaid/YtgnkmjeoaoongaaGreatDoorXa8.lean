/-
  DiskSame, DiskMove.
-/
import Derived.Test.YtgnkmjeoaoongaaGreatDoorXa7
set_option maxHeartbeats 400000
namespace Go.Proofs.YtgnkmjeoaoongaaGreatDoor
open Go.RowKit Go.Mer
theorem Qxj {x y:UInt8} (h: ¬x=y):((x.toNat:Int) !=(y.toNat:Int))=true:=by
 simp only [bne_iff_ne,ne_eq,Int.natCast_inj];exact λe=>h (UInt8.toNat_inj.1 e)
theorem Ag (a b:Option Addr) (c d B B':Nat) (xs ys:List UInt8) (w:World) (hx:Rd w B a (u8s xs)) (hy:Rd w B' b (u8s ys)) (hm:xs.length<=140737488355328):
  Calls Tryz.prog 29 #[.slice a xs.length c, .slice b ys.length d] w λe w'=>e= .returned (.bool (decide (xs=ys)))/\ ∃n,w'=w.drewN n:=by
 by_cases hl:xs.length=ys.length
 ·have HL:=zz hl;rw [<-hl];clear hl;have HX:=zz hx;have HY:=zz hy;clear hx hy;go_enter Tryz.func29,Tryz.ntmps29
  go_wp2_with fail
  go_loopg [5] xs.length (λg i wr=> ∃k:Nat,k<=xs.length/\g=xs.length-k/\i= .int .i64 k/\Hid (∃n,wr=w.drewN n)/\Hid (xs.take k=ys.take k))
  case atStart=>exact ⟨0,Nat.zero_le _,rfl,rfl,⟨0,rfl⟩,rfl⟩
  case round=>
   obtain ⟨k,hk,rfl,rfl,hw,ht⟩:=hrel;by_cases hlt:k<xs.length
   ·have hlt2:k<ys.length:=by have:=HL.out;omega
    have hxw:Rd wr B a (u8s xs):=by obtain ⟨n,rfl⟩:=hw.out;exact HX.out
    have J29:Rd wr B' b (u8s ys):=by obtain ⟨n,rfl⟩:=hw.out;exact HY.out
    obtain ⟨g,off,rfl,hg,hB,hc⟩:=hxw.byte hlt;obtain ⟨g',off',rfl,hg',hB',hc'⟩:=J29.byte (i:=k) hlt2;have hgl:g<wr.heap.size:=by omega
    have Qvm:g'<wr.heap.size:=by omega
    have hcn: ∀n,(wr.drewN n).cell? ⟨g,off+k,none⟩=some (.int .u8 (xs[k].toNat:Int)):=λ_=>hc;have hcn': ∀n,(wr.drewN n).cell? ⟨g',off'+k,none⟩=some (.int .u8 (ys[k].toNat:Int)):=λ_=>hc';by_cases he:xs[k]=ys[k]
    ·rw [<-he] at hcn'
     have htk:Hid (xs.take (k+1)=ys.take (k+1)):=by
      show _=_
      rw [List.take_succ_eq_append_getElem hlt,List.take_succ_eq_append_getElem hlt2,ht.out,he]
     clear he hxw J29 hc hc';go_wp2_with fail
     refine zE [0,0,0,1,0,0,0,1,0] [0,1,2,4,5,6,3,7,8] ?_;repeat (first|refine zA ?_|refine zB ?_|refine zC ?_)
     refine Q6 (λnq=>?_);go_wp2_with fail
     go_roundg (xs.length-(k+1))
     case measure=>omega
     case rel=>exact ⟨k+1,by omega,rfl,by go_num,by obtain ⟨n,e⟩:=hw.out;exact ⟨n+nq,by rw [e,World.drewN_drewN]⟩,htk⟩
    ·have hne:=Qxj he
     have Qo0:decide (xs=ys)=false:=by
      simp only [decide_eq_false_iff_not];rintro rfl;exact he rfl
     have Qu8:=zz Qo0;clear he hxw J29 hc hc' Qo0;go_wp2_with fail
     refine zE [0,0,0,1,0,0,0,1,0] [0,1,2,4,5,6,3,7,8] ?_;repeat (first|refine zA ?_|refine zB ?_|refine zC ?_)
     refine Q6 (λnq=>?_);go_wp2_with fail
     go_ret
     exact ⟨(by rw [Qu8.out];try rfl),by obtain ⟨n,e⟩:=hw.out;exact ⟨n+nq,by rw [e,World.drewN_drewN]⟩⟩
   ·have Qo0:decide (xs=ys)=true:=by
     have h1:=ht.out;rw [List.take_of_length_le (by omega),List.take_of_length_le (by have:=HL.out;omega)] at h1;simp [h1]
    have Qu8:=zz Qo0;clear Qo0;go_wp2_with fail
    go_ret
    exact ⟨(by rw [Qu8.out];try rfl),hw.out⟩
 ·have Qo0:decide (xs=ys)=false:=by
   simp only [decide_eq_false_iff_not];rintro rfl;exact hl rfl
  have Qu8:=zz Qo0;have hne: ¬((xs.length:Int)=(ys.length:Int)):=by omega
  clear hx hy hl Qo0;go_enter Tryz.func29,Tryz.ntmps29
  go_wp2_with fail
  go_ret
  exact ⟨(by rw [Qu8.out];try rfl),0,rfl⟩
theorem Qku {β:Type} (l:List (ByteArray×β)) (a:ByteArray):Qo (X3 l a) a=none:=Ya (by
 intro h;obtain ⟨p,hp,he⟩:=List.mem_map.1 h;have:=(List.mem_filter.1 hp).2;simp at this
 exact this he)
section
variable {w w':World} {d m room:Nat} {fused:Bool} {left:Int} {L L':Zu}
end
def Qrs (s:Qu) (name:ByteArray):Int:=if Qo s.files name=none then 7 else 0
def J67 (s:Qu) (name:ByteArray):Int×Qu:=five s [name] (Qrs s name) (X3 s.files name)
end Go.Proofs.YtgnkmjeoaoongaaGreatDoor
