/- store -/
import Derived.Test.YtgnkmjeoaoongaaGreatDoorVb7
set_option maxHeartbeats 400000
namespace Go.Proofs.YtgnkmjeoaoongaaGreatDoor
open Go.RowKit Go.Mer
def Jd3 (m c:Int):List UInt8:=Qq m.toNat++Qq c.toNat
def Jhu (l:List Z1):List UInt8:=l.flatMap λd=>Qq d.seq.toNat++Jd3 d.m d.c
def Jfc (k:ByteArray) (l:List Qo):List UInt8:=X3 (l.map λv=>⟨v.o,1,k,v⟩)
def J2y (l:List (ByteArray×List Qo)):List UInt8:=l.flatMap λp=>Jn p.1.data.toList++(Qq p.2.length++Jfc p.1 p.2)
def Gv (l:List Qu):List UInt8:=Qq 1++Fl l
def J06 (st:Ja):List UInt8:=Qq 3++(Jd3 st.mm st.mc++(Jhu st.of++(Qq st.keys.length++(J2y st.keys++(Qq st.kept.length++X3 st.kept)))))
def Qn7 (s:Option (List UInt8)):(Nat×Nat)×Option (List UInt8):=
 (((Mer.Yv s).1,(Mer.Yv (Mer.Yv s).2).1),if Za (Mer.Yv s).1 (Mer.Yv (Mer.Yv s).2).1=true then (Mer.Yv (Mer.Yv s).2).2 else none)
def Jcv:Nat->Option (List UInt8)->Option (List Z1×Option (List UInt8))
 |0,s=>some ([],s)
 |k+1,s=>
  if 1099511627776<(Mer.Yv s).1 then none
  else
   match Jcv k (Qn7 (Mer.Yv s).2).2 with
   |none=>none
   |some y=>some (⟨(Mer.Yv s).1,(Qn7 (Mer.Yv s).2).1.1,(Qn7 (Mer.Yv s).2).1.2⟩::y.1,y.2)
def Qwh (acc:List Qo) (v:Qo):Bool:=match acc.getLast? with|none=>true|some x=>Bl x v
def Jb6 (key:ByteArray):Nat->List Qo->Option (List UInt8)->Option (List Qo×Option (List UInt8))
 |0,acc,s=>some (acc,s)
 |_+1,acc,none=>some (acc,none)
 |k+1,acc,some l=>
  match Qjs (Xn (some l)).1 with
  |none=>none
  |some r=>if r.key=key/\r.seq=1/\Qwh acc r.v=true then Jb6 key k (acc++[r.v]) (Xn (some l)).2 else none
def J2w (acc:List (ByteArray×List Qo)) (k:ByteArray):Bool:=decide (1<=k.size/\k.size<=64)&&(match acc.getLast? with|none=>true|some x=>decide (Uf x.1 k))
def J2x:Nat->List (ByteArray×List Qo)->Option (List UInt8)->Option (List (ByteArray×List Qo)×Option (List UInt8))
 |0,acc,s=>some (acc,s)
 |_+1,acc,none=>some (acc,none)
 |k+1,acc,some l=>
  if J2w acc ⟨(Xn (some l)).1.toArray⟩=true/\(Mer.Yv (Xn (some l)).2).1≠0 then
   match Jb6 ⟨(Xn (some l)).1.toArray⟩ (Mer.Yv (Xn (some l)).2).1 [] (Mer.Yv (Xn (some l)).2).2 with
   |none=>none
   |some y=>J2x k (acc++[(⟨(Xn (some l)).1.toArray⟩,y.1)]) y.2
  else none
def Qwk (acc:List Qu) (r:Qu):Bool:=match acc.getLast? with|none=>true|some x=>decide (r.seq=x.seq+1)
def Qtc (o:Nat):Nat->List Qu->Option (List UInt8)->Option (List Qu×Option (List UInt8))
 |0,acc,s=>some (acc,s)
 |_+1,acc,none=>some (acc,none)
 |k+1,acc,some l=>
  match Qjs (Xn (some l)).1 with
  |none=>none
  |some r=>if r.o=(o:Int)/\Qwk acc r=true then Qtc o k (acc++[r]) (Xn (some l)).2 else none
def Qwg (acc:List Qu) (q:Int):Bool:=match acc.getLast? with|none=>true|some x=>decide (x.seq=q)
def J05 (o:Nat) (s:Option (List UInt8)):Option Ja:=
 match Jcv 5 (Qn7 s).2 with
 |none=>none
 |some d=>
  match J2x (Mer.Yv d.2).1 [] (Mer.Yv d.2).2 with
  |none=>none
  |some k=>
   match Qtc o (Mer.Yv k.2).1 [] (Mer.Yv k.2).2 with
   |none=>none
   |some q=>if q.2=some []/\Qwg q.1 (Qn d.1 o).seq=true then some ⟨0,0,false,k.1,(Qn7 s).1.1,(Qn7 s).1.2,d.1,q.1⟩ else none
def Kb (o:Nat) (st:Ja) (first:Bool) (p:List UInt8):Option Ja:=
 if ((Mer.Yv (some p)).1==3)=first then
  match (Mer.Yv (some p)).1,(Mer.Yv (some p)).2 with
  |1,some r=>
   match Qea r with
   |none=>none
   |some l=>if l≠[]/\V7 st l=0 then some (Jh o st l) else none
  |2,s=>if (Qn7 s).2=some []/\Zq st.mm st.mc (Qn7 s).1.1 (Qn7 s).1.2=true then some (Qwu st (Qn7 s).1.1 (Qn7 s).1.2) else none
  |3,s=>
   match J05 o s with
   |none=>none
   |some x=>some {x with Zc:=st.Zc,n:=st.n,dead:=st.dead}
  |_,_=>none
 else none
theorem Qpe {o:Nat} {st:Ja} {l:List Qu} (hl:l≠[]) (hm:V7 st l=0):Kb o st false (Gv l)=some (Jh o st l):=by
 obtain ⟨h1,h2,h3⟩:=Ik hm;unfold Kb Gv;rw [U8 1 (by decide)];refine (if_pos rfl).trans ?_;simp only [Qcb h2 h1];rw [if_pos ⟨hl,hm⟩]
def Qan (P:ByteArray):ByteArray:=⟨(P.data.toList++[97,103,101]).toArray⟩
def Zj (P:ByteArray) (a:Nat):ByteArray:=⟨(P.data.toList++(Lib.decDigits a++[46])).toArray⟩
def Qj5 (l:Jl) (P:ByteArray):Option Nat:=
 match Qs l (Qan P) with
 |none=>some 0
 |some x=>
  match Jft x.data with
  |none=>none
  |some p=>if p.2=x.data.length/\(Mer.Yv (some p.1)).2=some []/\(Mer.Yv (some p.1)).1<=1099511627776 then some (Mer.Yv (some p.1)).1 else none
def Q8v (o:Nat):Bool->Ja->List (List UInt8)->Option Ja
 |_,st,[]=>some st
 |f,st,p::r=>
  match Kb o st f p with
  |none=>none
  |some x=>Q8v o false x r
def Ny (o a:Nat) (E:List (List UInt8)):Option Ja:=
 if 0<a/\E.length=0 then none
 else
  match Q8v o (decide (0<a)) {Er with Zc:=a} E with
  |none=>none
  |some x=>some {x with n:=E.length-min 1 a}
def J7 (P:ByteArray) (s:Qz) (lg:Jf) (p:List UInt8):Int×Qz×Jf:=
 if (Jz P s lg p).1.2=0 then Yi P (Jz P s lg p).2.1 (Jz P s lg p).2.2 else ((Jz P s lg p).1.2,(Jz P s lg p).2.1,(Jz P s lg p).2.2)
def J8 (P:ByteArray) (o:Nat) (s:Qz) (st:Ja) (lg:Jf) (l:List Qu):Int×Qz×Ja×Jf:=
 if st.dead=true then (9,s,st,lg)
 else if l.length=0 then (0,s,st,lg)
 else if V7 st l=0 then
  let w:=J7 (Zj P st.Zc) s lg (Gv l)
  if w.1=0 then (0,w.2.1,{Jh o st l with n:=st.n+1},w.2.2) else (w.1,w.2.1,{st with dead:=true},w.2.2)
 else ((V7 st l:Int),s,st,lg)
def Eu (st:Ja) (k:ByteArray) (m c:Int):Option (List UInt8)×Int:=
 if Zq m c st.mm st.mc=true then (none,19) else (Uh (Qw st.keys k) m c,0)
def Xp (f t k:ByteArray):Bool:=decide (¬Uf k f)&&(decide (t.size=0)||decide (Uf k t))
def Vm (m c:Int) (f t:ByteArray):Nat->List (ByteArray×List Qo)->List (ByteArray×List UInt8)
 |_,[]=>[]
 |0,_=>[]
 |n+1,x::r=>
  if Xp f t x.1=true then
   match Uh x.2 m c with
   |none=>Vm m c f t (n+1) r
   |some b=>(x.1,b)::Vm m c f t n r
  else Vm m c f t (n+1) r
def Y2 (st:Ja) (f t:ByteArray) (m c:Int) (most:Int):List (ByteArray×List UInt8)×Int:=
 if Zq m c st.mm st.mc=true then ([],19) else (Vm m c f t most.toNat st.keys,0)
def V6 (st:Ja) (f most:Int):List Qu:=(st.kept.filter λr=>decide (f<=r.seq)).take most.toNat
def Z7 (st:Ja):Nat:=(st.keys.map λp=>p.2.length).sum
theorem Ic {o:Nat} {st:Ja} (h:Inv o st) (a n:Nat) (d:Bool):Inv o {st with Zc:=a,n:=n,dead:=d}:=⟨h.own,h.Qoe,h.done,h.mark,h.sorted,h.keys,h.kept⟩
def Vk (b:Nat):Value:= .pointer (some ⟨b,0,none⟩)
def F8 (d l:Nat) (P:ByteArray) (o:Nat) (st:Ja) (m:Nat) (kv:Value):Array Value:=
 #[Vk d,Vk l, .string P, .int .i64 (o:Int), .int .i64 (st.Zc:Int), .int .i64 (st.n:Int), .bool st.dead, .map (some m), .int .i64 st.mm, .int .i64 st.mc,
  .int .i64 (Qn st.of 0).seq, .int .i64 (Qn st.of 0).m, .int .i64 (Qn st.of 0).c, .int .i64 (Qn st.of 1).seq, .int .i64 (Qn st.of 1).m, .int .i64 (Qn st.of 1).c,
  .int .i64 (Qn st.of 2).seq, .int .i64 (Qn st.of 2).m, .int .i64 (Qn st.of 2).c, .int .i64 (Qn st.of 3).seq, .int .i64 (Qn st.of 3).m, .int .i64 (Qn st.of 3).c,
  .int .i64 (Qn st.of 4).seq, .int .i64 (Qn st.of 4).m, .int .i64 (Qn st.of 4).c,kv]
abbrev Zn:=List (ByteArray×Zs)
def Vr (cs:Zn):List (ByteArray×Value):=cs.map λp=>(p.1,Vk p.2.b)
def Jp (cs:Zn):List (ByteArray×List Qo):=cs.map λp=>(p.1,p.2.vs)
structure U1 (t:TypeId) (w:World) (cs:Zn):Prop where
 each: ∀p∈cs,Xr t w p.2
 Q00:(cs.map (·.2.b)).Nodup
 rows:(cs.filterMap (·.2.row.ownBlock)).Nodup
 keys:(cs.map (·.1)).Nodup
structure As (w:World) (ka:Option Addr) (kc:Nat) (K:List Qe):Prop where
 own:Own w 46 9 (.slice ka K.length kc) K.length (K.flatMap recC)
 vals: ∀x∈K,x.ok w
structure X6 (w:World) (s d l:Nat) (P:ByteArray) (o:Nat) (st:Ja) (m:Nat) (cs:Zn) (ka:Option Addr) (kc:Nat) (K:List Qe):Prop where
 cell:w.heap[s]?=some (.cells (F8 d l P o st m (.slice ka K.length kc)) 133 (0,0))
 map:U2 Value.string w m (Vr cs)
 Fx:U1 203 w cs
 kept:As w ka kc K
 perm:(Jp cs).Perm st.keys
 Ez:st.kept=K.map Qe.r
def K6 (cs:Zn):Nat->Prop:=λk=> ∃p∈cs,Qrx p.2 k
def Au (ka:Option Addr) (kc:Nat) (K:List Qe):Nat->Prop:=λk=>(Value.slice ka K.length kc).ownBlock=some k\/ ∃x∈K,x.sl.ownBlock=some k
def Ve (s m:Nat) (cs:Zn) (ka:Option Addr) (kc:Nat) (K:List Qe):Nat->Prop:=λk=>k=s\/k=m\/K6 cs k\/Au ka kc K k
section
variable {t:TypeId} {w w':World} {cs:Zn} {ka:Option Addr} {kc:Nat} {K:List Qe} {s d l o m:Nat} {P:ByteArray} {st:Ja}
theorem U1.keep {S:Nat->Prop} (h:U1 t w cs) (hk:Kp S w w') (hS: ∀k,K6 cs k-> ¬S k):U1 t w' cs:=
 {h with each:=λp hp=>(h.each p hp).keep hk λk hf=>hS k ⟨p,hp,hf⟩}
theorem As.keep {S:Nat->Prop} (h:As w ka kc K) (hk:Kp S w w') (hS: ∀k,Au ka kc K k-> ¬S k):As w' ka kc K:=
 ⟨h.own.keep hk λg hg=>hS g (.inl hg),λx hx=>Qm.ok.keep (h.vals x hx) hk λg hg=>hS g (.inr ⟨x,hx,hg⟩)⟩
theorem X6.keep {S:Nat->Prop} (h:X6 w s d l P o st m cs ka kc K) (hk:Kp S w w') (hS: ∀k,Ve s m cs ka kc K k-> ¬S k):X6 w' s d l P o st m cs ka kc K:=
 {h with
  cell:=hk.get h.cell (hS s (.inl rfl))
  map:=h.map.of_heap (hk.block m h.map.lt (hS m (.inr (.inl rfl))))
  Fx:=h.Fx.keep hk λk hf=>hS k (.inr (.inr (.inl hf)))
  kept:=h.kept.keep hk λk hf=>hS k (.inr (.inr (.inr hf)))}
theorem X6.Q9 (h:X6 w s d l P o st m cs ka kc K) (hk:Kp No w w'):X6 w' s d l P o st m cs ka kc K:=h.keep hk λ_ _ x=>x
theorem U1.lt (h:U1 t w cs): ∀k,K6 cs k->k<w.heap.size:=by
 rintro k ⟨p,hp,hf⟩;exact (h.each p hp).lt k hf
theorem As.lt (h:As w ka kc K): ∀k,Au ka kc K k->k<w.heap.size:=by
 rintro k (hk|⟨x,hx,hk⟩)
 ·exact h.own.lt k hk
 ·exact Own.lt (h.vals x hx) k hk
theorem X6.lt (h:X6 w s d l P o st m cs ka kc K): ∀k,Ve s m cs ka kc K k->k<w.heap.size:=by
 rintro k (rfl|rfl|hk|hk)
 ·exact Q7 h.cell
 ·exact h.map.lt
 ·exact h.Fx.lt k hk
 ·exact h.kept.lt k hk
theorem Ch (cs:Zn):(Vr cs).map (·.1)=cs.map (·.1):=Kh (λc:Zs=>Vk c.b) cs
theorem Vu (cs:Zn):(Jp cs).map (·.1)=cs.map (·.1):=Kh Zs.vs cs
theorem X6.Q1g (h:X6 w s d l P o st m cs ka kc K):s≠m:=by
 obtain ⟨es,c,hm,_⟩:=h.map;exact Xz h.cell hm
theorem X6.F7 (h:X6 w s d l P o st m cs ka kc K): ¬K6 cs s/\ ¬Au ka kc K s:=by
 refine ⟨?_,?_⟩
 ·rintro ⟨p,hp,hs|hs|⟨x,hx,hs⟩⟩
  ·exact Qd h.cell (h.Fx.each p hp).cell (by decide) hs
  ·obtain ⟨cur,hc⟩:=(h.Fx.each p hp).own.type s hs;exact Qd h.cell hc (by decide) rfl
  ·obtain ⟨cur,hc⟩:=Own.type ((h.Fx.each p hp).vals x hx) s hs;exact Qd h.cell hc (by decide) rfl
 ·rintro (hs|⟨x,hx,hs⟩)
  ·obtain ⟨cur,hc⟩:=h.kept.own.type s hs;exact Qd h.cell hc (by decide) rfl
  ·obtain ⟨cur,hc⟩:=Own.type (h.kept.vals x hx) s hs;exact Qd h.cell hc (by decide) rfl
theorem X6.turn {d' l' o':Nat} {P':ByteArray} {st':Ja} (h:X6 w s d l P o st m cs ka kc K) (hk:Kp (Mer.One s) w w') (hc:w'.heap[s]?=some (.cells (F8 d' l' P' o' st' m (.slice ka K.length kc)) 133 (0,0))) (h1:st'.keys=st.keys) (h2:st'.kept=st.kept):X6 w' s d' l' P' o' st' m cs ka kc K:=
 ⟨hc,h.map.of_heap (hk.block m h.map.lt λe=>h.Q1g (show m=s from e).symm),h.Fx.keep hk λk hf e=>h.F7.1 ((show k=s from e)▸hf),h.kept.keep hk λk hf e=>h.F7.2 ((show k=s from e)▸hf),by rw [h1];exact h.perm,by rw [h2];exact h.Ez⟩
end
theorem X6.at_ {w:World} {s d l o m:Nat} {P:ByteArray} {st:Ja} {cs:Zn} {ka:Option Addr} {kc:Nat} {K:List Qe} (h:X6 w s d l P o st m cs ka kc K) {W:World} (hW:Kp No w W) (i:Nat):
  W.cell? ⟨s,i,none⟩=(F8 d l P o st m (.slice ka K.length kc))[i]?:=Q4 (hW.get h.cell λx=>x) i
theorem Qlq:Tryz.prog.underlying 9=some .string:=Tryz.underlying9
theorem Qnu (w:World):(zeroValue 134).run Tryz.prog w= .ok (.pointer none) w:=by kernel_rfl
theorem G4 {w:World} {m:Nat} {l:List (ByteArray×Value)} (h:U2 Value.string w m l) (k:ByteArray):
  (Instr.lookup 128 (.map (some m)) (.string k) false).run Tryz.prog w= .ok ((Qs l k).getD (.pointer none)) w:=
 (Ir Tryz.underlying128 kindStr Q5r Q5q Qnu h k).1
theorem Vt (cs:Zn) (k:ByteArray):Qs (Vr cs) k=(Qs cs k).map λc=>Vk c.b:=Kc (λc:Zs=>Vk c.b) cs k
theorem Dt (cs:Zn) (k:ByteArray):Qs (Jp cs) k=(Qs cs k).map Zs.vs:=Kc Zs.vs cs k
theorem Xv {β:Type} {l l':List (ByteArray×β)} (hp:l.Perm l') (hn:(l.map (·.1)).Nodup) (k:ByteArray):Qs l k=Qs l' k:=by
 have hn':(l'.map (·.1)).Nodup:=(hp.map (·.1)).nodup_iff.1 hn;cases h:Qs l k with
 |none=>
  rw [Z5] at h;exact (Xu λhm=>h (((hp.map (·.1)).mem_iff).2 hm)).symm
 |some v=>exact (Xc hn' (hp.mem_iff.1 (Jc h))).symm
theorem X6.chain {w:World} {s d l o m:Nat} {P:ByteArray} {st:Ja} {cs:Zn} {ka:Option Addr} {kc:Nat} {K:List Qe} (h:X6 w s d l P o st m cs ka kc K) (k:ByteArray):
  Qs st.keys k=(Qs cs k).map Zs.vs:=by
 rw [<-Xv h.perm (by rw [Vu];exact h.Fx.keys) k,Dt]
theorem Qmo (room:Nat) (w:World) (hhi:room<=1073741824):
  Calls Tryz.prog 50 #[.int .i64 (room:Int)] w λe w'=> ∃r,e= .returned (.tuple #[.pointer (some ⟨r,0,none⟩), .int .i64 0])/\Kp No w w'/\ ∃G,Mr w' r ⟨room,none,[]⟩ G/\ ∀k,G k->w.heap.size<=k:=by
 go_enter Tryz.func50,Tryz.ntmps50
 go_wp2_with fail
 go_ret2
 refine ⟨_,rfl,zK.alloc _,λk=>k=w.heap.size,⟨.slice none 0 0,[],⟨heap_alloc_new w _,by simpa using Own.nil _ 170 3,by simp,List.Pairwise.nil,by simp [Zh,Jw],hhi,by simp,by simp [leftOf],by simp [leftOf]⟩,List.Perm.refl _,?_,?_⟩,?_⟩
 ·rintro k (rfl|hk|⟨f,hf,_⟩)
  ·rfl
  ·cases hk
  ·cases hf
 ·rintro k rfl;simp
 ·rintro k rfl;exact Nat.le_refl _
end Go.Proofs.YtgnkmjeoaoongaaGreatDoor
