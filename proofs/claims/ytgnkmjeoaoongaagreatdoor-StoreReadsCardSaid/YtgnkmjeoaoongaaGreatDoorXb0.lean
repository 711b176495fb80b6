/-
  DiskKnown, Bytes, WOct, WFour, WEnc.
-/
import Derived.Test.YtgnkmjeoaoongaaGreatDoorXa8
set_option maxRecDepth 100000
set_option maxHeartbeats 1000000
namespace Go.Proofs.YtgnkmjeoaoongaaGreatDoor
open Go.RowKit Go.Mer
section
variable {w W W':World} {d:Nat} {s s':Qu} {F:Nat->Prop} {r:Int×Qu} {e:Ending} {c:Int}
end
theorem Rd.const (W:World) (t:TypeId) (f:Nat×Nat) (C:Array Value) (xs:List Value) (hx:C.toList=xs):Rd (W.alloc (.cells C t f)) (W.alloc (.cells C t f)).heap.size (some ⟨W.heap.size,0,none⟩) xs:=λ_=>
 ⟨W.heap.size,0,rfl,by simp,Nat.le_refl _,λj u hu=>by
  rw [cell_of_row _ _ _ _ _ _ (heap_alloc_new W _)];subst hx;simpa using hu⟩
theorem D7 {K β:Type} [DecidableEq K] (l:List (K×β)) (k:K) (v:β):Qo (Qt l k v) k=some v:=by
 unfold Qt;split
 ·rename_i h
  induction l with
  |nil=>cases h
  |cons p l ih=>
   by_cases hp:p.1=k
   ·simp [Qo,hp]
   ·have hl:k∈l.map (·.1):=by
     rw [List.map_cons] at h;exact (List.mem_cons.1 h).resolve_left λe=>hp e.symm
    have:=ih hl;simp only [Qo,List.map_cons,hp,if_false,List.find?_cons,decide_false] at this⊢;exact this
 ·rename_i h
  have h0:l.find? (λp=>decide (p.1=k))=none:=by
   have:=Ya h;simpa only [Qo,Option.map_eq_none_iff] using this
  unfold Qo;rw [List.find?_append,h0];simp
theorem Fu (w:World) (v:Value) (xs ys:List UInt8) (hown:Own w 5 1 v xs.length (u8s xs)) (a:Option Addr) (c:Nat) (hx:Rd w w.heap.size a (u8s ys)) (hl:xs.length+ys.length<=140737488355328):
  ∃a' c' w',(Builtin.append_ #[42,42] 42 #[v, .slice a ys.length c]).run Tryz.prog w= .ok (.slice a' (xs++ys).length c') w'/\
   Own w' 5 1 (.slice a' (xs++ys).length c') (xs++ys).length (u8s (xs++ys))/\Kp (λk=>v.ownBlock=some k) w w'/\
   ((Value.slice a' (xs++ys).length c').ownBlock=v.ownBlock\/ ∃g,(Value.slice a' (xs++ys).length c').ownBlock=some g/\w.heap.size<=g):=by
 obtain ⟨i0,hi,hz0,hz1,hz2⟩:=info_parts infoByte
 obtain ⟨v',w',hrun,ho,hkp,hblk⟩:=Jk (P:=Tryz.prog) (w:=w) 42 42 42 5 i0 (.int .u8 0) 1 1 Tryz.underlying42 ⟨_,Tryz.underlying42⟩ hi hz0 hz1 hz2 rfl
  v xs.length (u8s xs) hown (.slice a ys.length c) ys.length (u8s ys) ⟨by simp [Zz],a,c,rfl,hx⟩ (Kk ys) (by simp only [maxLen];omega) (by omega)
 obtain ⟨_,a',c',rfl,_⟩:=id ho;rw [<-Ax,<-List.length_append] at ho;rw [<-List.length_append] at hrun hblk;exact ⟨a',c',w',hrun,ho,hkp,hblk⟩
theorem Qbl (w:World) (xs:List UInt8) (a:Option Addr) (c:Nat) (hx:Rd w w.heap.size a (u8s xs)) (hl:xs.length<=140737488355328):
  ∃a' c' w',(Builtin.append_ #[42,42] 42 #[.slice (some ⟨w.heap.size,0,none⟩) 0 0, .slice a xs.length c]).run Tryz.prog (w.alloc (.cells #[] 5))= .ok (.slice a' xs.length c') w'/\
   Own w' 5 1 (.slice a' xs.length c') xs.length (u8s xs)/\Kp No w w'/\(∀g,(Value.slice a' xs.length c').ownBlock=some g->w.heap.size<=g):=by
 have hal:Kp No w (w.alloc (.cells #[] 5)):=zK.alloc _
 obtain ⟨a',c',w',h1,h2,h3,h4⟩:=Fu (w.alloc (.cells #[] 5)) (.slice (some ⟨w.heap.size,0,none⟩) 0 0) [] xs (Own.made w 5 1 #[] 0 0 (Nat.le_refl _) (by simp [maxLen]) (by simp) rfl) a c
  ((hx.keep hal λ_ _ x=>x).mono hal.size (Nat.le_refl _)) (by simpa using hl)
 refine ⟨a',c',w',h1,h2,hal.trans h3 (λk hk h=>by simp [Value.ownBlock] at h;omega),λg hg=>?_⟩;rcases h4 with h4|⟨g',h4,h5⟩
 ·have hg2:(Value.slice a' ([]++xs).length c').ownBlock=some g:=hg;rw [h4] at hg2;simp [Value.ownBlock] at hg2
  omega
 ·have hg2:(Value.slice a' ([]++xs).length c').ownBlock=some g:=hg;rw [h4] at hg2;injection hg2 with hg2;simp at h5
  omega
theorem Nb (V:World) (g:Nat) (h0:Own V 5 1 (.slice (some ⟨g,0,none⟩) 0 0) 0 []) (xs:List UInt8) (a:Option Addr) (c:Nat) (hx:Rd V V.heap.size a (u8s xs)) (hl:xs.length<=140737488355328):
  ∃a' c' w',(Builtin.append_ #[42,42] 42 #[.slice (some ⟨g,0,none⟩) 0 0, .slice a xs.length c]).run Tryz.prog V= .ok (.slice a' xs.length c') w'/\
   Own w' 5 1 (.slice a' xs.length c') xs.length (u8s xs)/\Kp (One g) V w'/\(∀k,(Value.slice a' xs.length c').ownBlock=some k->k=g\/V.heap.size<=k):=by
 obtain ⟨a',c',w',h1,h2,h3,h4⟩:=Fu V (.slice (some ⟨g,0,none⟩) 0 0) [] xs h0 a c hx (by simpa using hl);refine ⟨a',c',w',h1,h2,h3.mono λk _ hk=>(Option.some.inj hk).symm,λk hk=>?_⟩;have hk2:(Value.slice a' ([]++xs).length c').ownBlock=some k:=hk;rcases h4 with h4|⟨g',h4,h5⟩
 ·rw [h4] at hk2;exact .inl (Option.some.inj hk2).symm
 ·rw [h4] at hk2;exact .inr ((Option.some.inj hk2)▸h5)
section
variable {w W W':World} {d:Nat} {s s':Qu} {F:Nat->Prop} {v1 v2 v':Value} {Jb5 Jb6 ys:List UInt8} {r:Int×Qu} {e:Ending} {c:Int}
end
end Go.Proofs.YtgnkmjeoaoongaaGreatDoor
namespace Go.Mer
open Go.ChangeShapes Go.WideShapes Go.ChangeAt Go.RowKit Go.Deep
theorem X8.keep {w W:World} {a:Option Addr} {R:List Row} (h:X8 w a R) (hk:Kp No w W):X8 W a R:=
 ⟨(h.top.keep hk λ_ _ x=>x).mono hk.size (Nat.le_refl _),λr hr=>⟨((h.each r hr).1.keep hk λ_ _ x=>x).mono hk.size (Nat.le_refl _),(h.each r hr).2⟩⟩
theorem Q1m (W:World) (t:TypeId) (R:List Row) (h: ∀r∈R,Rd W W.heap.size r.a (u8s r.data)/\r.data.length<=140737488355328):X8 (W.alloc (.cells (R.map Row.val).toArray t)) (some ⟨W.heap.size,0,none⟩) R:=by
 have hk:Kp No W (W.alloc (.cells (R.map Row.val).toArray t)):=zK.alloc _;refine ⟨?_,λr hr=>⟨((h r hr).1.keep hk λ_ _ x=>x).mono hk.size (Nat.le_refl _),(h r hr).2⟩⟩;intro hx;refine ⟨W.heap.size,0,rfl,by simp,Nat.le_refl _,λj u hu=>?_⟩;rw [Nat.zero_add,cell_of_row _ _ _ _ _ _ (heap_alloc_new W _),List.getElem?_toArray];exact hu
theorem Q5p (W:World) (t:TypeId) (a:Option Addr) (c:Nat) (l:List UInt8) (h:Rd W W.heap.size a (u8s l)) (hl:l.length<=140737488355328):
  X8 (W.alloc (.cells #[.slice a l.length c] t)) (some ⟨W.heap.size,0,none⟩) [⟨a,c,l⟩]/\Kp No W (W.alloc (.cells #[.slice a l.length c] t)):=
 ⟨Q1m W t [⟨a,c,l⟩] λr hr=>by
  rw [List.mem_singleton] at hr;subst hr;exact ⟨h,hl⟩,zK.alloc _⟩
theorem La (W:World) (t:TypeId) (a a':Option Addr) (c c':Nat) (l l':List UInt8) (h:Rd W W.heap.size a (u8s l)) (h':Rd W W.heap.size a' (u8s l')) (hl:l.length<=140737488355328) (hl':l'.length<=140737488355328):
  X8 (W.alloc (.cells #[.slice a l.length c, .slice a' l'.length c'] t)) (some ⟨W.heap.size,0,none⟩) [⟨a,c,l⟩,⟨a',c',l'⟩]/\Kp No W (W.alloc (.cells #[.slice a l.length c, .slice a' l'.length c'] t)):=
 ⟨Q1m W t [⟨a,c,l⟩,⟨a',c',l'⟩] λr hr=>by
  rcases List.mem_cons.1 hr with hr|hr
  ·subst hr;exact ⟨h,hl⟩
  ·rw [List.mem_singleton] at hr;subst hr;exact ⟨h',hl'⟩,zK.alloc _⟩
theorem rd_holds {W:World} {a:Option Addr} {c:Nat} {l:List UInt8} (h:Rd W W.heap.size a (u8s l)):Lib.HoldsBytes W (.slice a l.length c) l:=by
 refine ⟨a,c,rfl,λha=>?_,λad had i x hx=>?_⟩
 ·cases l with
  |nil=>rfl
  |cons b l=>
   obtain ⟨g,off,hg,_⟩:=h.byte (i:=0) (by simp);rw [ha] at hg;cases hg
 ·obtain ⟨hi,he⟩:=List.getElem?_eq_some_iff.1 hx;obtain ⟨g,off,hg,_,_,hc⟩:=h.byte hi;rw [had] at hg;injection hg with hg;subst hg;rw [Jq,hc,he]
theorem Q4d {B:Nat} {W:World} {v:Value} {l:List UInt8} (h:Lib.FreshBytes B W v l): ∃a c,v= .slice a l.length c/\Rd W W.heap.size a (u8s l)/\l.length<=c/\ ∀ad,a=some ad->B<=ad.block:=by
 obtain ⟨g,cap,zs,rfl,hg,hc,_,hz,hb,hl,hcell,_⟩:=h;refine ⟨some ⟨g,0,none⟩,cap,rfl,λhx=>?_,hc,λad had=>by injection had with had;subst had;exact hg⟩;have hx':0<l.length:=by simpa [u8s] using hx
 have h0:=hcell 0 (by omega);refine ⟨g,0,rfl,World.block_lt_of_cell? W _ h0,Nat.le_refl _,λj u hu=>?_⟩;have hj:j<l.length:=by have:=(List.getElem?_eq_some_iff.1 hu).1;simpa [u8s] using this
 rw [Nat.zero_add,hcell j (by omega)];obtain ⟨z,hzj⟩: ∃z,zs[j]?=some z:=⟨zs[j]'(by omega),List.getElem?_eq_getElem _⟩;have hrange:=hb z (List.mem_of_getElem? hzj)
 have hlj:(Lib.bytesOf (zs.take l.length))[j]?=some (UInt8.ofNat z.toNat):=by
  unfold Lib.bytesOf;simp [hj,hzj]
 rw [hl] at hlj
 have hu':(u8s l)[j]?=some (.int .u8 ((UInt8.ofNat z.toNat).toNat:Int)):=by
  simp only [u8s,List.getElem?_map,hlj,Option.map_some,u8]
 rw [hu'] at hu;rw [<-hu,List.getD_eq_getElem?_getD,hzj,UInt8.toNat_ofNat_of_lt' (by show z.toNat<256;omega)];simp only [Option.getD_some];congr 2
 omega
end Go.Mer
namespace Go.Proofs.YtgnkmjeoaoongaaGreatDoor
open Go.RowKit Go.Mer
theorem join_nil (ls:List (List UInt8)):Lib.join ls []=ls.flatten:=by
 induction ls with
 |nil=>rfl
 |cons x r ih=>
  cases r with
  |nil=>simp [Lib.join]
  |cons y r=>
   have e:Lib.join (x::y::r) []=x++[]++Lib.join (y::r) []:=by first|rfl|simp [Lib.join]
   rw [e,ih];simp
theorem Qhf (R:List Row):Lib.lens (R.map Row.data)=(Ym R).length:=by
 unfold Ym;induction R with
 |nil=>rfl
 |cons r R ih=>
  rw [List.map_cons,List.flatten_cons,List.length_append];have e:Lib.lens (r.data::R.map Row.data)=r.data.length+Lib.lens (R.map Row.data):=by first|rfl|simp [Lib.lens]
  rw [e,ih]
def Qsi (w:World) (l:List UInt8) (e:Ending) (w':World):Prop:= ∃a c,e= .returned (.slice a l.length c)/\Rd w' w'.heap.size a (u8s l)/\l.length<=c/\Kp No w w'
def Que (w:World) (l:List UInt8) (e:Ending) (w':World):Prop:= ∃a c,e= .returned (.slice a l.length c)/\Rd w' w'.heap.size a (u8s l)/\l.length<=c/\Kp No w w'/\ ∀ad,a=some ad->w.heap.size<=ad.block
theorem Que.rd {w w':World} {l:List UInt8} {e:Ending} (h:Que w l e w'):Qsi w l e w':=by
 obtain ⟨a,c,h1,h2,h3,h4,_⟩:=h;exact ⟨a,c,h1,h2,h3,h4⟩
theorem Qbf (w:World) (a:Option Addr) (cap:Nat) (R:List Row) (hR:X8 w a R) (hc:R.length<=cap) (hl:R.length<=140737488355328) (hs:(Ym R).length<=140737488355328):
  Calls Tryz.prog 272 #[.slice a R.length cap, .slice none 0 0] w (Que w (Ym R)):=by
 match hRR:R with
 |[]=>
  refine (Tryz.bytes_Join_none a cap (.slice none 0 0) w).mono ?_;rintro e w' ⟨rfl,rfl⟩;exact ⟨_,_,rfl,λhx=>(by simp [Ym,u8s] at hx),Nat.le_refl _,zK.alloc _,λad had=>by injection had with had;subst had;exact Nat.le_refl _⟩
 |[r]=>
  obtain ⟨g,off,rfl,_,hcell,hrd,hm⟩:=hR.at_ zK (j:=0) (by simp);have J12:Ym [r]=r.data:=by simp [Ym]
  rw [J12];rw [Nat.add_zero] at hcell;simp only [List.getElem_cons_zero] at hcell hrd hm;by_cases h0:r.data.length=0
  ·have hd:r.data=[]:=List.eq_nil_of_length_eq_zero h0;rw [h0] at hcell;refine (Tryz.bytes_Join_one_empty g off cap r.a r.cap (.slice none 0 0) w hcell).mono ?_;rintro e w' ⟨rfl,rfl⟩;rw [hd];exact ⟨none,0,rfl,Rd.nil _ _ _,Nat.le_refl _,Kp.refl _ _,λ_ h=>by cases h⟩
  ·obtain ⟨g1,o1,hra,_⟩:=hrd.byte (i:=0) (by omega);rw [hra] at hcell;refine (Tryz.bytes_Join_one g off cap ⟨g1,o1,none⟩ r.cap r.data (.slice none 0 0) w hcell (λi x hx=>?_) (by omega) hm).mono ?_
   ·obtain ⟨hi,he⟩:=List.getElem?_eq_some_iff.1 hx;obtain ⟨g2,o2,hg,_,_,hc2⟩:=hrd.byte hi;rw [hra] at hg;injection hg with hg;injection hg with e1 e2;subst e1;subst e2;rw [Jq,hc2,he]
   ·rintro e w' ⟨v,rfl,hf,hb⟩;obtain ⟨a',c',rfl,Qr7,hcc,hnw⟩:=Q4d hf;exact ⟨a',c',rfl,Qr7,hcc,Kp.of_below (S:=No) hb (λk h1 h2=>absurd h1 (by omega)),hnw⟩
 |r1::r2::R'=>
  obtain ⟨g,off,rfl,_,hcell,_,_⟩:=hR.at_ zK (j:=0) (by simp)
  have hP:Lib.PartsAt w ⟨g,off,none⟩ ((r1::r2::R').map Row.val) ((r1::r2::R').map Row.data):=by
   refine ⟨by rw [List.length_map,List.length_map],λi v hv=>?_,λi v l hv hl=>?_⟩
   ·obtain ⟨hi,he⟩:=List.getElem?_eq_some_iff.1 hv;rw [List.length_map] at hi;obtain ⟨g',o',hg',_,hc',_,_⟩:=hR.at_ zK hi;injection hg' with hg';injection hg' with e1 e2;subst e1;subst e2;rw [Jq,hc',<-he,List.getElem_map];rfl
   ·rw [List.getElem?_map] at hv hl;obtain ⟨r,hr,rfl⟩:=Option.map_eq_some_iff.1 hv;rw [hr] at hl;injection hl with hl;subst hl;exact rd_holds ((hR.each r (List.mem_of_getElem? hr)).1)
  refine (Tryz.bytes_Join_many g off (r1::r2::R').length cap _ _ (.slice none 0 0) [] w (by rw [List.length_map]) (by simp) hP hc ⟨none,0,rfl,λ_=>rfl,λ_ h=>(by cases h)⟩ hl (by rw [Qhf,List.length_nil,Nat.zero_mul];exact hs)).mono ?_;rintro e w' ⟨v,rfl,hf,hb⟩;rw [join_nil] at hf;obtain ⟨a',c',rfl,Qr7,hcc,hnw⟩:=Q4d hf;exact ⟨a',c',rfl,Qr7,hcc,Kp.of_below (S:=No) hb (λk h1 h2=>absurd h1 (by omega)),hnw⟩
theorem Q3z (w:World) (a:Option Addr) (cap:Nat) (R:List Row) (hR:X8 w a R) (hc:R.length<=cap) (hl:R.length<=140737488355328) (hs:(Ym R).length<=140737488355328):
  Calls Tryz.prog 231 #[.slice a R.length cap] w (Que w (Ym R)):=by
 have HJ:=zz (Qbf w a cap R hR hc hl hs);clear hR hc hl hs;go_enter Tryz.func231,Tryz.ntmps231
 go_wp2_with fail
 refine HJ.out.mono ?_;rintro e w' ⟨a',c',rfl,h1,h2,h3,h4⟩;go_wp2_with fail
 go_ret
 exact ⟨a',c',rfl,h1,h2,h3,h4⟩
theorem Q3y (w:World) (a:Option Addr) (cap:Nat) (R:List Row) (hR:X8 w a R) (hc:R.length<=cap) (hl:R.length<=140737488355328) (hs:(Ym R).length<=140737488355328):
  Calls Tryz.prog 231 #[.slice a R.length cap] w (Qsi w (Ym R)):=(Q3z w a cap R hR hc hl hs).mono λ_ _ h=>h.rd
theorem B1 (v:Nat) (hv:v<4294967296):(u8s (Jy v)).toArray= #[.int .u8 ((v:Int) % 256), .int .u8 ((v:Int)/256 % 256), .int .u8 ((v:Int)/65536 % 256), .int .u8 ((v:Int)/16777216)]:=by
 have e:u8s (Jy v)=[.int .u8 ((v % 256:Nat):Int), .int .u8 ((v/256 % 256:Nat):Int), .int .u8 ((v/65536 % 256:Nat):Int), .int .u8 ((v/16777216 % 256:Nat):Int)]:=by
  unfold Jy;simp only [u8s,List.map_cons,List.map_nil,u8,Lb]
 have a0:((v % 256:Nat):Int)=(v:Int) % 256:=Int.natCast_emod v 256;have d1:((v/256:Nat):Int)=(v:Int)/256:=Int.natCast_ediv v 256;have d2:((v/65536:Nat):Int)=(v:Int)/65536:=Int.natCast_ediv v 65536;have d3:((v/16777216:Nat):Int)=(v:Int)/16777216:=Int.natCast_ediv v 16777216;have a1:((v/256 % 256:Nat):Int)=(v:Int)/256 % 256:=by rw [<-d1];exact Int.natCast_emod (v/256) 256
 have a2:((v/65536 % 256:Nat):Int)=(v:Int)/65536 % 256:=by rw [<-d2];exact Int.natCast_emod (v/65536) 256
 rw [e,Nat.mod_eq_of_lt (show v/16777216<256 by omega),a0,a1,a2,d3]
theorem Q4c (v:Nat) (hv:v<4294967296) (w:World):Calls Tryz.prog 233 #[.int .u32 (v:Int)] w (Qsi w (Jy v)):=by
 go_enter Tryz.func233,Tryz.ntmps233
 go_wp2_with fail
 go_ret
 rw [<-B1 v hv];exact ⟨_,4,rfl,Rd.const w 5 (0,0) _ _ rfl,Nat.le_refl _,zK.alloc _⟩
theorem Qpq (r:Row):Ym [r]=r.data:=by simp [Ym]
theorem Cy (r q:Row):Ym [r,q]=r.data++q.data:=by simp [Ym]
theorem Mi (v:Nat):(Jy v).length<=140737488355328:=by rw [Qs];omega
theorem Qfc (v S:Nat) (a a':Option Addr) (c c':Nat):Ym [⟨a,c,Jy v⟩,⟨a',c',Jy S⟩]=Jy v++Jy S:=Cy _ _
theorem Qbi (v S:Nat) (a a':Option Addr) (c c':Nat):(Ym [⟨a,c,Jy v⟩,⟨a',c',Jy S⟩]).length<=140737488355328:=by
 rw [Qfc,List.length_append,Qs,Qs];omega
theorem Qes (W:World) (g c:Nat) (r q:Row) (hR:X8 W (some ⟨g,0,none⟩) [r,q]) (hc:2<=c) (hl:(r.data++q.data).length<=140737488355328):Calls Tryz.prog 231 #[.slice (some ⟨g,0,none⟩) 2 c] W (Qsi W (r.data++q.data)):=by
 have h:=Q3y W (some ⟨g,0,none⟩) c [r,q] hR hc (by show 2<=140737488355328;omega) (by rw [Cy];exact hl);rw [Cy] at h;exact h
theorem Qk5 (W:World) (g c:Nat) (r q:Row) (hR:X8 W (some ⟨g,0,none⟩) [r,q]) (hc:2<=c) (hl:(r.data++q.data).length<=140737488355328):Calls Tryz.prog 231 #[.slice (some ⟨g,0,none⟩) 2 c] W (Que W (r.data++q.data)):=by
 have h:=Q3z W (some ⟨g,0,none⟩) c [r,q] hR hc (by show 2<=140737488355328;omega) (by rw [Cy];exact hl);rw [Cy] at h;exact h
theorem Qnn (W:World) (g c:Nat) (r:Row) (hR:X8 W (some ⟨g,0,none⟩) [r]):Calls Tryz.prog 234 #[.slice (some ⟨g,0,none⟩) 1 c] W λe w'=>e= .returned (.int .u32 (crc r.data:Int))/\W=w':=by
 have h:=Qk8 W (some ⟨g,0,none⟩) c [r] hR (by show 1<=140737488355328;omega);rw [Qpq] at h;exact h
theorem Q86 (v:Nat) (hv:v<4294967296) (w:World):Calls Tryz.prog 232 #[.int .u32 (v:Int)] w (Qsi w (Er v)):=by
 have HF:=zz (λ(x:Nat) (hx:x<4294967296) W=>Q4c x hx W);have HV:=zz hv;obtain ⟨S,hS⟩: ∃S,S=crc (Jy v):=⟨_,rfl⟩;have Qds:=zz (And.intro hS (show S<4294967296 by rw [hS];exact Q25 _));clear hv hS;go_enter Tryz.func232,Tryz.ntmps232
 go_wp2_with fail
 have hc:=HF.out v HV.out w;with_reducible refine hc.mono ?_
 rintro e w1 ⟨a1,c1,rfl,r1,_,k1⟩;have HR1:=zz r1;have U8:=zz k1;clear r1 k1 hc;simp only [Qs];go_wp2_with fail
 have hc:=HF.out v HV.out w1;with_reducible refine hc.mono ?_
 rintro e w2 ⟨a2,c2,rfl,r2,_,k2⟩;have Qz:=zz k2;simp only [Qs];obtain ⟨hrow,hk3⟩:=Q5p w2 42 a2 c2 (Jy v) r2 (Mi v);rw [Qs] at hrow hk3;obtain ⟨W3,hW3⟩: ∃W,W=w2.alloc (.cells #[.slice a2 4 c2] 42):=⟨_,rfl⟩;have HW3:=zz hW3;rw [<-hW3] at hrow hk3;have hsum:=Qnn W3 w2.heap.size 1 _ hrow;simp only [<-show S=_ from Qds.out.1] at hsum;have HS:=zz hsum;have Zj:=zz hk3;clear hsum hrow hk3 hW3 r2 k2 hc;go_wp2_with fail
 rw [<-HW3.out];have hc:=HS.out;with_reducible refine hc.mono ?_
 rintro e w4 ⟨rfl,rfl⟩;clear hc;go_wp2_with fail
 have hc:=HF.out S Qds.out.2 W3;with_reducible refine hc.mono ?_
 rintro e w5 ⟨a5,c5,rfl,r5,_,k5⟩;simp only [Qs];have kk:Kp No w1 w5:=Qz.out.trans_same (Zj.out.trans_same k5);obtain ⟨hrow,hk6⟩:=La w5 42 a1 a5 c1 c5 (Jy v) (Jy S) ((HR1.out.keep kk λ_ _ x=>x).mono kk.size (Nat.le_refl _)) r5 (Mi v) (Mi S);rw [Qs,Qs] at hrow hk6;obtain ⟨W6,Q4l⟩: ∃W,W=w5.alloc (.cells #[.slice a1 4 c1, .slice a5 4 c5] 42):=⟨_,rfl⟩;have J7f:=zz Q4l;rw [<-Q4l] at hrow hk6;have hj:=Qes W6 w5.heap.size 2 _ _ hrow (Nat.le_refl _) (by rw [<-Qfc v S a1 a5 c1 c5];exact Qbi v S a1 a5 c1 c5);have hh:Er v=Jy v++Jy S:=by unfold Er;rw [Qds.out.1]
 simp only [<-hh] at hj;have HJ:=zz hj;have Gb:=zz (U8.out.trans_same (kk.trans_same hk6));clear hj hrow hk6 Q4l kk k5 r5 hc hh;go_wp2_with fail
 rw [<-J7f.out];have hc:=HJ.out;with_reducible refine hc.mono ?_
 rintro e w7 ⟨a7,c7,rfl,r7,h7,k7⟩;have Zv:=zz (show Qsi w (Er v) (.returned (.slice a7 (Er v).length c7)) w7 from ⟨a7,c7,rfl,r7,h7,Gb.out.trans_same k7⟩);clear r7 h7 k7 hc;go_wp2_with fail
 go_ret
 exact Zv.out
def J34 (w:World) (p:List UInt8) (e:Ending) (w':World):Prop:= ∃a c,e= .returned (.tuple #[.slice a (Jc p).length c, .int .i64 0])/\Rd w' w'.heap.size a (u8s (Jc p))/\Kp No w w'
def J33 (w:World) (p:List UInt8) (e:Ending) (w':World):Prop:= ∃a c,e= .returned (.tuple #[.slice a (Jc p).length c, .int .i64 0])/\Rd w' w'.heap.size a (u8s (Jc p))/\Kp No w w'/\ ∀ad,a=some ad->w.heap.size<=ad.block
def Q9m (w:World) (l:List UInt8) (e:Ending) (w':World):Prop:=
 ∃a c,e= .returned (.slice a l.length c)/\Mer.Own w' 5 1 (.slice a l.length c) l.length (u8s l)/\(∀g,(Value.slice a l.length c).ownBlock=some g->w.heap.size<=g)/\Kp No w w'
theorem Q23 (R:List Row) (j:Nat):(Ym (R.take j)).length<=(Ym R).length:=by
 have:Ym R=Ym (R.take j)++Ym (R.drop j):=by
  unfold Ym;rw [<-List.flatten_append,<-List.map_append,List.take_append_drop]
 rw [this,List.length_append];omega
theorem Qcf (v:Nat) (hv:v<4294967296) (w:World):Calls Tryz.prog 249 #[.int .u32 (v:Int)] w (Q9m w (Jy v)):=by
 go_enter Tryz.func249,Tryz.ntmps249
 go_wp2_with fail
 go_ret
 rw [<-B1 v hv];refine ⟨some ⟨w.heap.size,0,none⟩,4,rfl,Mer.Own.made w 5 1 _ 4 4 (Nat.le_refl _) (by simp [maxLen]) (by simp [u8s,Jy]) (by rfl),λg hg=>?_,zK.alloc _⟩;have:w.heap.size=g:=by simpa [Value.ownBlock] using hg
 omega
theorem Q75 (w:World) (a:Option Addr) (cap:Nat) (R:List Row) (hR:X8 w a R) (hc:R.length<=cap) (hn:R.length<=1000000) (hl:(Ym R).length<=262144):
  Calls Tryz.prog 186 #[.slice a R.length cap] w (J33 w (Ym R)):=by
 have HJ:=zz (λW (h:Kp No w W)=>Q3y W a cap R (hR.keep h) hc (by omega) (by omega));have HR:=zz hR;have Kn:=zz (λj (h:j<R.length)=>Q0y R h);have hle:=Q23 R;have HF:=zz (λ(x:Nat) (hx:x<4294967296) W=>Q4c x hx W);have HH:=zz (λ(x:Nat) (hx:x<4294967296) W=>Q86 x hx W);obtain ⟨P,hP⟩: ∃P,P=Ym R:=⟨_,rfl⟩;have hlen: ∀j,(Ym (R.take j)).length<=262144:=λj=>Nat.le_trans (hle j) hl;rw [<-hP] at HJ hl⊢;have HP:=zz hP;have HL:=zz hlen;clear hR hc hP hle hlen;go_enter Tryz.func186,Tryz.ntmps186
 go_wp2_with fail
 go_loop [4,10] (λn i=> ∃j x:Nat,j<=R.length/\i= .int .i64 (j:Int)/\n= .int .i64 (x:Int)/\x<=262144/\Hid (x=(Ym (R.take j)).length)) (λ_ i=>R.length-(intOf i).toNat)
 case atStart=>exact ⟨0,0,Nat.zero_le _,rfl,rfl,by omega,by show _=_;simp [Ym]⟩
 case round=>
  obtain ⟨j,x,hj,rfl,rfl,hx,HX⟩:=hrel;by_cases hlt:j<R.length
  ·obtain ⟨g0,J2t,rfl,hg0,hc0,hr0,hm0⟩:=HR.out.at_ zK hlt;have hst:=Kn.out j hlt;have hx2:=HL.out (j+1);rw [hst,List.length_append,<-show x=_ from HX] at hx2;obtain ⟨D,hD⟩: ∃D,D=R[j].data:=⟨_,rfl⟩;obtain ⟨ra,hra⟩: ∃ra,ra=R[j].a:=⟨_,rfl⟩;obtain ⟨rc,hrc⟩: ∃rc,rc=R[j].cap:=⟨_,rfl⟩;rw [<-hD] at hx2 hc0 hst;rw [<-hra,<-hrc] at hc0;have HST:=zz hst;clear hD hra hrc hr0 hm0 hst;go_wp2_with fail
   go_round
   case rel=>
    refine ⟨j+1,x+D.length,by omega,by go_num,by go_num,hx2,?_⟩;show _=_
    rw [HST.out,List.length_append,<-show x=_ from HX]
   case measure=>simp [intOf];omega
  ·obtain rfl:j=R.length:=by omega
   have hxp:x=P.length:=by rw [show x=_ from HX,List.take_length,HP.out]
   subst hxp;have hd:decide ((262144:Int)<(P.length:Int))=false:=by rw [decide_eq_false_iff_not];omega
   have hd2:decide (262144<P.length)=false:=by rw [decide_eq_false_iff_not];omega
   have hmod:(P.length:Int) % 4294967296=(P.length:Int):=Int.emod_eq_of_lt (by omega) (by omega);have Qs7:=zz hl;obtain ⟨n,Qr0⟩: ∃n,n=P.length:=⟨_,rfl⟩;have Q6y:=zz Qr0;clear hlt hj hl HR Kn HL HX hx;rw [<-Qr0] at hd hd2 hmod⊢;clear Qr0;go_wp2_with fail
   have hc:=HH.out n (by rw [Q6y.out];have:=Qs7.out;omega) w;with_reducible refine hc.mono ?_
   rintro e w1 ⟨a1,c1,rfl,r1,_,k1⟩;have HR1:=zz r1;have U8:=zz k1;clear r1 k1 hc hmod;simp only [Z8];go_wp2_with fail
   have hc:=HJ.out w1 U8.out;with_reducible refine hc.mono ?_
   rintro e w2 ⟨a2,c2,rfl,r2,_,k2⟩;obtain ⟨hrow,hk3⟩:=La w2 42 a1 a2 c1 c2 (Er n) P ((HR1.out.keep k2 λ_ _ x=>x).mono k2.size (Nat.le_refl _)) r2 (by rw [Z8];omega) (by have:=Qs7.out;omega);rw [Z8,<-show n=_ from Q6y.out] at hrow hk3;obtain ⟨W3,hW3⟩: ∃W,W=w2.alloc (.cells #[.slice a1 8 c1, .slice a2 n c2] 42):=⟨_,rfl⟩;have HW3:=zz hW3;rw [<-hW3] at hrow hk3;have hb:Er n++P=X9 P:=by unfold X9;rw [Q6y.out]
   have hbl:(X9 P).length=n+8:=by rw [<-hb,List.length_append,Z8,<-show n=_ from Q6y.out];omega
   have hj:=Qes W3 w2.heap.size 2 _ _ hrow (Nat.le_refl _) (by show (Er n++P).length<=_;rw [hb,hbl,Q6y.out];have:=Qs7.out;omega);simp only [hb] at hj;have Qz1:=zz hj;have Zj:=zz (U8.out.trans_same (k2.trans_same hk3));have Qj2:=zz hbl;rw [<-show n=_ from Q6y.out];clear hj hrow hk3 hW3 k2 r2 hc hb hbl;go_wp2_with fail
   rw [<-HW3.out];have hc:=Qz1.out;with_reducible refine hc.mono ?_
   rintro e w4 ⟨a4,c4,rfl,r4,_,k4⟩;have HR4:=zz r4;have Ox:=zz (Zj.out.trans_same k4);clear k4 hc;go_wp2_with fail
   obtain ⟨hrow,hk5⟩:=Q5p w4 42 a4 c4 (X9 P) r4 (by rw [Qj2.out,Q6y.out];have:=Qs7.out;omega);obtain ⟨W5,Dk⟩: ∃W,W=w4.alloc (.cells #[.slice a4 (X9 P).length c4] 42):=⟨_,rfl⟩;have Q0d:=zz Dk;rw [<-Dk] at hrow hk5;obtain ⟨S,hS⟩: ∃S,S=crc (X9 P):=⟨_,rfl⟩;have hsum:=Qnn W5 w4.heap.size 1 _ hrow;simp only [<-hS] at hsum;have Qds:=zz (And.intro hS (show S<4294967296 by rw [hS];exact Q25 _));have HS:=zz hsum;have Ga:=zz hk5;clear hsum hrow hk5 Dk hS r4;rw [<-Q0d.out];have hc:=HS.out;with_reducible refine hc.mono ?_
   rintro e w6 ⟨rfl,rfl⟩;clear hc;go_wp2_with fail
   have hc:=HF.out S Qds.out.2 W5;with_reducible refine hc.mono ?_
   rintro e w7 ⟨a7,c7,rfl,r7,_,k7⟩;simp only [Qs];have kk:Kp No w4 w7:=Ga.out.trans_same k7;obtain ⟨hrow,hk8⟩:=La w7 42 a4 a7 c4 c7 (X9 P) (Jy S) ((HR4.out.keep kk λ_ _ x=>x).mono kk.size (Nat.le_refl _)) r7 (by rw [Qj2.out,Q6y.out];have:=Qs7.out;omega) (Mi S);rw [Qs] at hrow hk8;obtain ⟨W8,Q3n⟩: ∃W,W=w7.alloc (.cells #[.slice a4 (X9 P).length c4, .slice a7 4 c7] 42):=⟨_,rfl⟩;have Qu4:=zz Q3n;rw [<-Q3n] at hrow hk8;have hh:X9 P++Jy S=Jc P:=by unfold Jc;rw [Qds.out.1]
   have hj:=Qk5 W8 w7.heap.size 2 _ _ hrow (Nat.le_refl _) (by show (X9 P++Jy S).length<=_;rw [List.length_append,Qs,Qj2.out,Q6y.out];have:=Qs7.out;omega);simp only [hh] at hj;have J6w:=zz hj;have Kx:=zz (Ox.out.trans_same (kk.trans_same hk8));clear hj hrow hk8 Q3n kk k7 r7 hc hh;go_wp2_with fail
   rw [<-Qu4.out];have hc:=J6w.out;with_reducible refine hc.mono ?_
   rintro e w9 ⟨a9,c9,rfl,r9,_,k9,n9⟩;have Zv:=zz (show J33 w P (.returned (.tuple #[.slice a9 (Jc P).length c9, .int .i64 0])) w9 from ⟨a9,c9,rfl,r9,Kx.out.trans_same k9,λad had=>Nat.le_trans Kx.out.size (n9 ad had)⟩);clear r9 k9 n9 hc;go_wp2_with fail
   exact bodyPost_ret (v:= .tuple #[.slice a9 (Jc P).length c9, .int .i64 0]) (by simp [results,Tryz.results186,go_sem]) rfl Zv.out
theorem Q74 (w:World) (a:Option Addr) (cap:Nat) (R:List Row) (hR:X8 w a R) (hc:R.length<=cap) (hn:R.length<=1000000) (hl:(Ym R).length<=262144):
  Calls Tryz.prog 186 #[.slice a R.length cap] w (J34 w (Ym R)):=(Q75 w a cap R hR hc hn hl).mono λ_ _ h=>by
 obtain ⟨a,c,h1,h2,h3,_⟩:=h;exact ⟨a,c,h1,h2,h3⟩
theorem Q5r {S:Nat->Prop} (w W:World) (v:Value) (xs ys:List UInt8) (hO:Mer.Own W 5 1 v xs.length (u8s xs)) (hf: ∀g,v.ownBlock=some g->w.heap.size<=g) (hk:Kp S w W) (a:Option Addr) (c:Nat) (hx:Rd W W.heap.size a (u8s ys)) (hl:xs.length+ys.length<=140737488355328):
  ∃a' c' W',(Builtin.append_ #[42,42] 42 #[v, .slice a ys.length c]).run Tryz.prog W= .ok (.slice a' (xs++ys).length c') W'/\Mer.Own W' 5 1 (.slice a' (xs++ys).length c') (xs++ys).length (u8s (xs++ys))/\
   (∀g,(Value.slice a' (xs++ys).length c').ownBlock=some g->w.heap.size<=g)/\Kp S w W'/\Kp (λk=>v.ownBlock=some k) W W':=by
 obtain ⟨a',c',W',h1,h2,h3,h4⟩:=Fu W v xs ys hO a c hx hl;refine ⟨a',c',W',h1,h2,λg hg=>?_,hk.trans h3 λi hi h=>(by have:=hf i h;omega),h3⟩;rcases h4 with h4|⟨g',h4,h5⟩
 ·exact hf g (h4▸hg)
 ·rw [h4] at hg;injection hg with hg;subst hg;exact Nat.le_trans hk.size h5
theorem Zq (w W:World) (v:Value) (xs ys:List UInt8) (hO:Mer.Own W 5 1 v xs.length (u8s xs)) (hf: ∀g,v.ownBlock=some g->w.heap.size<=g) (hk:Kp No w W) (a:Option Addr) (c:Nat) (hx:Rd W W.heap.size a (u8s ys)) (hl:xs.length+ys.length<=140737488355328):
  ∃a' c' W',(Builtin.append_ #[42,42] 42 #[v, .slice a ys.length c]).run Tryz.prog W= .ok (.slice a' (xs++ys).length c') W'/\Mer.Own W' 5 1 (.slice a' (xs++ys).length c') (xs++ys).length (u8s (xs++ys))/\
   (∀g,(Value.slice a' (xs++ys).length c').ownBlock=some g->w.heap.size<=g)/\Kp No w W':=by
 obtain ⟨a',c',W',h1,h2,h3,h4,_⟩:=Q5r w W v xs ys hO hf hk a c hx hl;exact ⟨a',c',W',h1,h2,h3,h4⟩
theorem Q5z {W:World} {a:Option Addr} {c n:Nat} {l:List UInt8} (h:Mer.Own W 5 1 (.slice a n c) l.length (u8s l)) (hn:n=l.length) (hl:l.length<=140737488355328):Calls Tryz.prog 250 #[.slice a n c] W λe w'=>e= .returned (.int .u32 (crc l:Int))/\W=w':=by
 subst hn;exact Qi0 W a c l h.rd' hl
end Go.Proofs.YtgnkmjeoaoongaaGreatDoor
