/-
  Chunk, WNilD, WGate, WCaught, WClose, RecAny, WSyncC, Hlc.
-/
import Derived.Test.YtgnkmjeoaoongaaGreatDoorXa5
set_option maxRecDepth 100000
set_option maxHeartbeats 1000000
namespace Go.Mer
open Go Go.RowKit
theorem Rd.kp {w w':World} {a:Option Addr} {xs:List Value} (h:Rd w w.heap.size a xs) (hk:Kp No w w'):Rd w' w'.heap.size a xs:=(h.keep hk λ_ _ x=>x).mono hk.size (Nat.le_refl _)
theorem Lz {α:Type} (f:α->List Value) (c:Nat) (hf: ∀x,(f x).length=c): ∀(L:List α) {k j:Nat} (h:k<L.length),j<c->(L.flatMap f)[k*c+j]?=(f L[k])[j]?
 |[],k,j,h,_=>by simp at h
 |x::L,k,j,h,hj=>by
  rw [List.flatMap_cons];cases k with
  |zero=>
   rw [List.getElem?_append_left (by rw [hf];omega)];simp
  |succ k=>
   rw [List.getElem?_append_right (by rw [hf,Nat.add_mul];omega),hf,show (k+1)*c+j-c=k*c+j from by rw [Nat.add_mul];omega];exact Lz f c hf L (by simpa using h) hj
theorem Ye {α:Type} {w:World} {a:Option Addr} {f:α->List Value} {c:Nat} (hf: ∀x,(f x).length=c) (h0:0<c) {L:List α} (h:Rd w w.heap.size a (L.flatMap f)) {k:Nat} (hk:k<L.length):
  ∃g off,a=some ⟨g,off,none⟩/\ ∀W,Kp No w W-> ∀j u,(f L[k])[j]?=some u->W.cell? ⟨g,off+k*c+j,none⟩=some u:=by
 have hpos:0<(L.flatMap f).length:=by
  have h1:=Lz f c hf L hk (j:=0) h0;have h2:(f L[k])[0]?=some ((f L[k])[0]'(by rw [hf];exact h0)):=List.getElem?_eq_getElem _;rw [h2] at h1;have:=(List.getElem?_eq_some_iff.1 h1).1;omega
 obtain ⟨g,off,ha,hg,_,hc⟩:=h hpos;refine ⟨g,off,ha,λW hW j u hu=>?_⟩;have hj:j<c:=by rw [<-hf L[k]];exact (List.getElem?_eq_some_iff.1 hu).1
 rw [hW.cell (p:=⟨g,off+k*c+j,none⟩) hg (λx=>x),Nat.add_assoc];exact hc _ u (by rw [Lz f c hf L hk hj];exact hu)
theorem Xa {α:Type} (f:α->List Value) (c:Nat) (hf: ∀x,(f x).length=c): ∀(L:List α) (k:Nat),(L.flatMap f).take (k*c)=(L.take k).flatMap f
 |[],k=>by simp
 |x::L,0=>by simp
 |x::L,k+1=>by
  rw [List.flatMap_cons,List.take_succ_cons,List.flatMap_cons,List.take_append,hf,List.take_of_length_le (by rw [hf,Nat.add_mul];omega),show (k+1)*c-c=k*c from by rw [Nat.add_mul];omega,Xa f c hf L k]
theorem Yn {α:Type} (f:α->List Value) (c:Nat) (hf: ∀x,(f x).length=c): ∀(L:List α) (k:Nat),(L.flatMap f).drop (k*c)=(L.drop k).flatMap f
 |[],k=>by simp
 |x::L,0=>by simp
 |x::L,k+1=>by
  rw [List.flatMap_cons,List.drop_succ_cons,List.drop_append,hf,List.drop_of_length_le (by rw [hf,Nat.add_mul];omega),show (k+1)*c-c=k*c from by rw [Nat.add_mul];omega,Yn f c hf L k];rfl
theorem Vz {α:Type} (f:α->List Value) (c:Nat) (hf: ∀x,(f x).length=c): ∀(L:List α),(L.flatMap f).length=L.length*c
 |[]=>by simp
 |x::L=>by rw [List.flatMap_cons,List.length_append,hf,Vz f c hf L,List.length_cons,Nat.add_mul];omega
theorem I0 {α:Type} (f:α->List Value) (c:Nat) (hf: ∀x,(f x).length=c): ∀(L:List α) {k j:Nat} (h:k<L.length) (_:j<c) {x:α} {u:Value} (_:(f L[k]).set j u=f x),(L.flatMap f).set (k*c+j) u=(L.set k x).flatMap f
 |[],k,j,h,_,_,_,_=>by simp at h
 |y::L,0,j,h,hj,x,u,hx=>by
  rw [List.flatMap_cons,List.set_cons_zero,List.flatMap_cons,Nat.zero_mul,Nat.zero_add,List.set_append_left _ _ (by rw [hf];exact hj)];rw [show (f y).set j u=f x from hx]
 |y::L,k+1,j,h,hj,x,u,hx=>by
  rw [List.flatMap_cons,List.set_cons_succ,List.flatMap_cons,List.set_append_right _ _ (by rw [hf,Nat.add_mul];omega),hf,show (k+1)*c+j-c=k*c+j from by rw [Nat.add_mul];omega,I0 f c hf L (by simpa using h) hj hx]
theorem Q34 {w:World} {e:TypeId} {g off n cap sz:Nat} {xs:List Value} (h:Own w e sz (.slice (some ⟨g,off,none⟩) n cap) n xs) (i:Nat) (hi:i<n*sz) (u:Value):
  Own (w.setCell ⟨g,off+i,none⟩ u) e sz (.slice (some ⟨g,off,none⟩) n cap) n (xs.set i u):=by
 obtain ⟨hl,a,cap',hv,h1,h2,h3,h4⟩:=h;injection hv with hv1 hv2 hv3;subst hv3;obtain ⟨g',off',cur,had,hg,hfit,hx⟩:=h4 ⟨g,off,none⟩ hv1.symm;injection had with e1 e2;subst e1;subst e2;have hle:n*sz<=cap*sz:=Nat.mul_le_mul_right _ h1;refine ⟨by simpa using hl,some ⟨g,off,none⟩,cap,rfl,h1,h2,λh=>(by cases h),λad had=>?_⟩;injection had with had;subst had;refine ⟨g,off,cur.setIfInBounds (off+i) u,rfl,Qh hg (off+i) u,by simpa using hfit,?_⟩;rw [<-hx];apply List.ext_getElem?
 intro j;rw [List.getElem?_take,List.getElem?_set,List.getElem?_take];by_cases hj:j<n*sz
 ·simp only [hj,if_true];rw [List.getElem?_drop,List.getElem?_drop,Array.toList_setIfInBounds,List.getElem?_set];have hsz:off+i<cur.toList.length:=by simp;omega
  have hlen:i<((cur.toList.drop off).take (n*sz)).length:=by simp;omega
  by_cases hij:i=j
  ·subst hij;simp only [if_pos hsz,if_pos hlen]
  ·rw [if_neg (by omega),if_neg hij]
 ·rw [if_neg hj,if_neg hj];by_cases hij:i=j
  ·subst hij;omega
  ·rw [if_neg hij]
section
variable {α:Type} {f:α->List Value} {E sz:Nat}
def Qq (E sz:Nat) (f:α->List Value) (w0 wr:World) (v:Value) (n:Nat) (Q:List α):Prop:=
 n=Q.length/\Own wr E sz v n (Q.flatMap f)/\(∀g,v.ownBlock=some g->w0.heap.size<=g)/\Kp No w0 wr
theorem Qq.keep {w0 wr W:World} {v:Value} {n:Nat} {Q:List α} (h:Qq E sz f w0 wr v n Q) (hk:Kp No wr W):Qq E sz f w0 W v n Q:=⟨h.1,h.2.1.keep hk λ_ _ x=>x,h.2.2.1,h.2.2.2.trans_same hk⟩
theorem Qq.nil (E sz:Nat) (f:α->List Value) (w:World):Qq E sz f w w (.slice none 0 0) 0 []:=⟨rfl,by simpa using Own.nil w E sz,λg h=>by simp [Value.ownBlock] at h,Kp.refl _ _⟩
theorem Qq.made {w0 W:World} (h:Kp No w0 W):Qq E sz f w0 (W.alloc (.cells #[] E)) (.slice (some ⟨W.heap.size,0,none⟩) 0 0) 0 []:=
 ⟨rfl,Own.made W E sz #[] 0 0 (Nat.le_refl _) (by simp [maxLen]) (by simp) (by simp),λg hg=>by
  have hg:W.heap.size=g:=by simpa [Value.ownBlock] using hg
  have:=h.size;omega,h.alloc _⟩
theorem Qq.app {P:Program} {T bytes:Nat} (hT:P.underlying T=some (.slice E)) (hE:(P.info? E).map (λi=>((i.zero.map λz=>z.cells.size),i.size,i.bytes))=some (some sz,sz,bytes)) (hone: ∀x,∀u∈f x,u.oneCell'=true)
  {w0 W:World} {v:Value} {n:Nat} {Q:List α} (h:Qq E sz f w0 W v n Q) (N:List α) {x:Value} {m:Nat} (hsrc:Src W sz x m (N.flatMap f)) (hm:m=N.length) (hn:n+m<=maxLen) (hb:(n+m)*bytes<=140737488355328):
  ∃a' c' W',(Builtin.append_ #[T,T] T #[v,x]).run P W= .ok (.slice a' (n+m) c') W'/\Qq E sz f w0 W' (.slice a' (n+m) c') (n+m) (Q++N)/\Kp (λk=>v.ownBlock=some k) W W':=by
 obtain ⟨rfl,h3,h4,h6⟩:=h;obtain ⟨i0,hi,hz⟩:=Option.map_eq_some_iff.1 hE;injection hz with hz0 hz;injection hz with hz1 hz2;obtain ⟨z,hz,hz3⟩:=Option.map_eq_some_iff.1 hz0
 obtain ⟨v',w',hrun,ho,hkp,hblk⟩:=Jk (P:=P) T T T E i0 z sz bytes hT ⟨_,hT⟩ hi hz hz1 hz2 hz3 v Q.length _ h3 x m _ hsrc
  (λu hu=>by obtain ⟨y,_,hy⟩:=List.mem_flatMap.1 hu;exact hone y u hy) hn hb
 obtain ⟨_,a',c',rfl,_⟩:=id ho
 refine ⟨a',c',w',hrun,⟨by rw [List.length_append];omega,by rw [List.flatMap_append];exact ho,λg' hg'=>?_,h6.trans hkp λi hi hs=>by
  have:=h4 i hs;omega⟩,hkp⟩
 rcases hblk with hb|⟨g2,hb,hb2⟩
 ·exact h4 g' (hb.symm.trans hg')
 ·obtain rfl:=Option.some.inj (hb.symm.trans hg');have h7:=h6.size;omega
theorem Yf (hf: ∀x,(f x).length=sz) {W:World} {a:Option Addr} {c:Nat} {Q:List α} (h:Rd W W.heap.size a (Q.flatMap f)):Src W sz (.slice a Q.length c) Q.length (Q.flatMap f):=⟨Vz f sz hf Q,a,c,rfl,h⟩
theorem Qlx {W:World} (a:Option Addr) (c:Nat):Src W sz (.slice a 0 c) 0 (([]:List α).flatMap f):=⟨by simp,a,c,rfl,Rd.nil _ _ _⟩
theorem Ew (hf: ∀x,(f x).length=sz) {W:World} {g:Nat} {x:α} {cs:Array Value} {t:TypeId} (hg:W.heap[g]?=some (.cells cs t (0,0))) (hcs:cs.toList=f x):Src W sz (.slice (some ⟨g,0,none⟩) 1 1) 1 ([x].flatMap f):=by
 refine ⟨by rw [Vz f sz hf];rfl,some ⟨g,0,none⟩,1,rfl,Rd.row (n:=sz) hg ?_ (Q3 hg) (Nat.le_refl _)⟩;rw [List.drop_zero,hcs,List.flatMap_cons,List.flatMap_nil,List.append_nil];exact List.take_of_length_le (by rw [hf];omega)
end
theorem Own.place {w:World} {e:TypeId} {sz n cap:Nat} {a:Option Addr} {xs:List Value} (h:Own w e sz (.slice a n cap) n xs) (hn:0<n*sz): ∃g off,a=some ⟨g,off,none⟩/\g<w.heap.size/\(∀i,w.frozen? ⟨g,i,none⟩=false):=by
 obtain ⟨hl,a',cap',hv,h1,h2,h3,h4⟩:=h;injection hv with hv1 hv2 hv3;subst hv1;subst hv3;cases a with
 |none=>
  have:=h3 rfl;subst this;have:n=0:=by omega
  subst this;simp at hn
 |some ad=>
  obtain ⟨g,off,cur,rfl,hg,_⟩:=h4 ad rfl;exact ⟨g,off,rfl,Q3 hg,λi=>Qc hg i⟩
end Go.Mer
namespace Go.Proofs.YtgnkmjeoaoongaaGreatDoor
open Go.RowKit Go.Mer
theorem Na {fn:Func} {R:Ending->World->Prop} {a:Act} {w:World} {v:Value} (hd:a.defers=[]) (hr:(results fn a.tmps).run Tryz.prog w= .ok v w) (h:R (.returned v) w):bodyPostD Tryz.prog fn R Exit.ret a w:=by
 show Leaves _ _ _ _ a.defers _ _
 rw [hd];exact ⟨v,hr,h⟩
theorem Q9z (w:World):Calls Tryz.prog 160 #[.int .i64 0] w λe w'=>e= .returned (.tuple #[])/\w=w':=by
 go_enter Tryz.func160,Tryz.ntmps160
 go_wp2_with fail
 refine bodyPost_end (results_none rfl _ _ _) rfl ⟨rfl,rfl⟩
theorem E5 (p:Addr) (w:World):Calls Tryz.prog 156 #[.nilIface, .pointer (some p)] w λe w'=>e= .returned (.bool false)/\w=w':=by
 go_enter Tryz.func156,Tryz.ntmps156
 go_wp2_with fail
 go_ret
 exact ⟨rfl,rfl⟩
theorem Qfu (k:Nat) (hk:0<k) (hk2:k<100) (w:World):Calls Tryz.prog 160 #[.int .i64 (k:Int)] w λe w'=>e= .panicked [{v:= .iface 280 (.agg #[.int .i64 (k:Int)]),recovered:=false}]/\w=w':=by
 have e1:((k:Int)==0)=false:=by rw [beq_eq_false_iff_ne];omega
 have e2:((k:Int) !=0)=true:=by rw [bne,e1];rfl
 have hk0: ¬k=0:=by omega
 go_enter Tryz.func160,Tryz.ntmps160
 go_wp2_with fail
 first|exact ⟨rfl,rfl,rfl⟩|exact ⟨rfl,rfl⟩
theorem Q7r (p q:Addr) (w:World):CallsD Tryz.prog 155 #[.pointer (some p), .pointer (some q)] .returning w λe u' w'=>e= .returned (.tuple #[])/\u'= .returning/\w'=w:=by
 refine callsD_of_wpS Tryz.func155 rfl λc₀ cs hu=>?_;apply wpS_seq
 apply wpS_region
 simp [wpOpsS,go_sem,recoverD,hu,Tryz.ntmps155,Exit.thenS]
 refine (E5 p w).mono ?_;rintro e w' ⟨rfl,rfl⟩;refine wpS_cond (t:=false) (by simp [Act.eval,Array.replicate]) ?_;simp only [Bool.false_eq_true,if_false];refine wpS_of_wp (wp_skip ?_);cases c₀
 simp_all [bodyPostS,results,Tryz.results155]
theorem Qkm (v:Value) (xT:TypeId) (w:World):(Instr.typeAssert (.iface 280 v) xT 280 true).run Tryz.prog w= .ok (.tuple #[v, .bool true]) w:=by
 simp [Instr.typeAssert,run_underlying Tryz.underlying280,go_sem,Result.andThen]
theorem En (b i k:Nat) (x:Value) (w:World) (hc:w.cell? ⟨b,i,none⟩=some x) (hf:w.frozen? ⟨b,i,none⟩=false) (hb:b<w.heap.size):Calls Tryz.prog 156 #[.iface 280 (.agg #[.int .i64 (k:Int)]), .pointer (some ⟨b,i,none⟩)] w λe w'=>e= .returned (.bool true)/\ ∃o,w'=(w.setCell ⟨b,i,none⟩ (.int .i64 (k:Int))).alloc o:=by
 have hta:=Qkm;go_enter Tryz.func156,Tryz.ntmps156
 go_wp2_with fail
 go_ret
 exact ⟨rfl,_,rfl⟩
theorem Qf6 (p q r:Addr) (w:World):CallsD Tryz.prog 183 #[.pointer (some p), .pointer (some q), .pointer (some r)] .returning w λe u' w'=>e= .returned (.tuple #[])/\u'= .returning/\w'=w:=by
 refine callsD_of_wpS Tryz.func183 rfl λc₀ cs hu=>?_;apply wpS_seq
 apply wpS_region
 simp [wpOpsS,go_sem,recoverD,hu,Tryz.ntmps183,Exit.thenS]
 refine (E5 p w).mono ?_;rintro e w' ⟨rfl,rfl⟩;refine wpS_cond (t:=false) (by simp [Act.eval,Array.replicate]) ?_;simp only [Bool.false_eq_true,if_false];refine wpS_of_wp (wp_skip ?_);cases c₀
 simp_all [bodyPostS,results,Tryz.results183]
theorem Qbe (b i k l:Nat) (q r:Addr) (x y z:Value) (older:List PanicEntry) (w:World) (hc:w.cell? ⟨b,i,none⟩=some x) (hf:w.frozen? ⟨b,i,none⟩=false) (hb:b<w.heap.size) (hq:w.cell? q=some y) (J8z:w.frozen? q=false) (Qle:q.block<w.heap.size) (hne: ¬q.block=b)
  (hr:w.cell? r=some (.pointer (some ⟨l,0,none⟩))) (hrb:r.block<w.heap.size) (hrn: ¬r.block=b) (hl:w.cell? ⟨l,5,none⟩=some z) (hlf:w.frozen? ⟨l,5,none⟩=false) (hlb:l<w.heap.size) (hln: ¬l=b) (hlq: ¬l=q.block):
  CallsD Tryz.prog 183 #[.pointer (some ⟨b,i,none⟩), .pointer (some q), .pointer (some r)] (.panicking ({v:= .iface 280 (.agg #[.int .i64 (k:Int)]),recovered:=false}::older)) w λe u' w'=>
   e= .returned (.tuple #[])/\u'= .panicking ({v:= .iface 280 (.agg #[.int .i64 (k:Int)]),recovered:=true}::older)/\ ∃o,w'=(((w.setCell ⟨b,i,none⟩ (.int .i64 (k:Int))).alloc o).setCell q (.int .i64 0)).setCell ⟨l,5,none⟩ (.bool ((k:Int) !=6)):=by
 refine callsD_of_wpS Tryz.func183 rfl λc₀ cs hu=>?_;apply wpS_seq
 apply wpS_region
 simp [wpOpsS,go_sem,recoverD,hu,Tryz.ntmps183,Exit.thenS]
 refine (En b i k x w hc hf hb).mono ?_;rintro e w' ⟨rfl,o,rfl⟩;refine wpS_cond (t:=true) (by simp [Act.eval,Array.replicate]) ?_;simp only [if_true];have hk:Kp (λj=>j=b) w ((w.setCell ⟨b,i,none⟩ (.int .i64 (k:Int))).alloc o):=((Kp.refl (λj=>j=b) w).setCell (p:=⟨b,i,none⟩) (.inl rfl) _).alloc _;have hk0:Kp No (w.setCell ⟨b,i,none⟩ (.int .i64 (k:Int))) ((w.setCell ⟨b,i,none⟩ (.int .i64 (k:Int))).alloc o):=zK.alloc _;have hq2:=(hk.cell Qle hne).trans hq;have J1r:=(hk.frozen Qle hne).trans J8z;have hr2:=(hk.cell hrb hrn).trans hr;have hl2:=(hk.cell (p:=⟨l,5,none⟩) hlb hln).trans hl;have C2:=(hk.frozen (p:=⟨l,5,none⟩) hlb hln).trans hlf
 have he2:((w.setCell ⟨b,i,none⟩ (.int .i64 (k:Int))).alloc o).cell? ⟨b,i,none⟩=some (.int .i64 (k:Int)):=by
  rw [hk0.cell (p:=⟨b,i,none⟩) (by simpa using hb) (λx=>x)];simp [go_sem,hc]
 obtain ⟨W,hW⟩: ∃W,W=(w.setCell ⟨b,i,none⟩ (.int .i64 (k:Int))).alloc o:=⟨_,rfl⟩;rw [<-hW] at hq2 J1r hr2 hl2 C2 he2⊢;have hkq:Kp (λj=>j=q.block) W (W.setCell q (.int .i64 0)):=(Kp.refl (λj=>j=q.block) W).setCell (.inl rfl) _;have hWs:w.heap.size<=W.heap.size:=by rw [hW];exact hk.size
 have hl3:=(hkq.cell (p:=⟨l,5,none⟩) (by show l<_;omega) hlq).trans hl2;have Q2h:=(hkq.frozen (p:=⟨l,5,none⟩) (by show l<_;omega) hlq).trans C2;have HW:=zz hW;clear hW hk hk0 hkq;refine wpS_of_wp ?_;go_wp2_with fail
 exact ⟨rfl,_,rfl,_,results_none rfl _ _ _,rfl,rfl,o,by rw [<-HW.out]⟩
end Go.Proofs.YtgnkmjeoaoongaaGreatDoor
namespace Go.Mer
open Go
def Cq (md:Region.Mode) (ops:Array Oper):Nat->Array Bool->List (List Nat)
 |0,_=>[[]]
 |fuel+1,listed=>if (Region.ready md ops listed).isEmpty then [[]] else (Region.ready md ops listed).flatMap λi=>(Cq md ops fuel (listed.setIfInBounds i true)).map (i:: ·)
theorem Qlu (md:Region.Mode) (ops:Array Oper): ∀(fuel t:Nat) (listed:Array Bool),Region.linearise.go md ops fuel t listed []∈Cq md ops fuel listed:=by
 intro fuel;induction fuel with
 |zero=>intro t listed;simp [Region.linearise.go,Cq]
 |succ fuel ih=>
  intro t listed;simp only [Region.linearise.go]
  change (match (Region.ready md ops listed)[t % (Region.ready md ops listed).length]? with
   |some i=>Region.linearise.go md ops fuel (t/(Region.ready md ops listed).length) (listed.setIfInBounds i true) [i]
   |none=>[].reverse)∈_
  unfold Cq;cases hi:(Region.ready md ops listed)[t % (Region.ready md ops listed).length]? with
  |none=>
   have hnil:Region.ready md ops listed=[]:=by
    cases hr:Region.ready md ops listed with
    |nil=>rfl
    |cons x xs=>
     rw [hr] at hi;have hlt:t % (x::xs).length<(x::xs).length:=Nat.mod_lt _ (by simp);simp at hi
     simp at hlt
     omega
   rw [hnil];simp
  |some i=>
   simp only [];have hm:=List.mem_of_getElem? hi
   have hne:(Region.ready md ops listed).isEmpty=false:=by
    cases hr:Region.ready md ops listed with
    |nil=>rw [hr] at hm;cases hm
    |cons x xs=>rfl
   rw [hne,linearise_go_acc,List.reverse_singleton,List.singleton_append];simp only [Bool.false_eq_true,if_false];exact List.mem_flatMap.2 ⟨i,hm,List.mem_map.2 ⟨_,ih _ _,rfl⟩⟩
theorem Ow {P:Program} {Q:Exit->Act->List Frame->World->Prop} {a:Act} {cs:List Frame} {w:World} {id:Nat} {ops:Array Oper} (L:List (List Nat)) (hm:P.follows .mixedOrders=true) (hL:Cq .any ops ops.size (Array.replicate ops.size false)=L)
  (h: ∀l∈L,wpOpsS P ops Q l a cs {w with drawn:=w.drawn+1}):(Code.region id ops true).wpS P Q a cs w:=by
 intro b k hb hr;have hmem:=Qlu .any ops ops.size (w.tape w.drawn (.order b.fn id)) (Array.replicate ops.size false);rw [hL] at hmem;obtain ⟨e,a',cs',w',q,r⟩:=wp_opsS _ a cs _ (h _ hmem) b k hb hr;refine ⟨e,a',cs',w',q, .of_steps (.one ?_) r⟩;have hs:=step_region_draw (P:=P) (b:=b) (a:=a) (k:=k) (cs:=cs) (w:=w) (ops:=ops) (id:=id);simp only [Region.schedule,hm,Bool.true_or,if_true] at hs;exact hs
end Go.Mer
namespace Go.Proofs.YtgnkmjeoaoongaaGreatDoor
open Go.RowKit Go.Mer
theorem Qct (p:Addr) (q:Addr) (l:Nat) (z:Value) (w:World) (hq:w.cell? q=some (.pointer (some ⟨l,0,none⟩))) (hl:w.cell? ⟨l,5,none⟩=some z) (hlf:w.frozen? ⟨l,5,none⟩=false):
  CallsD Tryz.prog 188 #[.pointer (some p), .pointer (some q)] .returning w λe u' w'=>e= .returned (.tuple #[])/\u'= .returning/\w'=w.drew.setCell ⟨l,5,none⟩ (.bool false):=by
 refine callsD_of_wpS Tryz.func188 rfl λc₀ cs hu=>?_;refine Ow [[0,1,2,3,4,5],[1,0,2,3,4,5],[1,2,0,3,4,5]] (by kernel_rfl) (by kernel_rfl) ?_;have hq2:w.drew.cell? q=some (.pointer (some ⟨l,0,none⟩)):=hq;have hl2:w.drew.cell? ⟨l,5,none⟩=some z:=hl;have C2:w.drew.frozen? ⟨l,5,none⟩=false:=hlf;obtain ⟨W,hW⟩: ∃W,W=w.drew:=⟨_,rfl⟩;rw [<-hW] at hq2 hl2 C2⊢;change ∀J2q∈_,wpOpsS _ _ _ J2q _ _ w.drew
 rw [<-hW];intro o ho;simp only [List.mem_cons,List.not_mem_nil,or_false] at ho;rcases ho with rfl|rfl|rfl
 ·skip
  simp [wpOpsS,go_sem,recoverD,hu,Tryz.ntmps188,hq2]
  refine (E5 p W).mono ?_;rintro e w' ⟨rfl,rfl⟩;simp [go_sem,hl2,C2,bodyPostS,results,Tryz.results188,Array.replicate]
  cases c₀
  simp_all
 ·skip
  simp [wpOpsS,go_sem,recoverD,hu,Tryz.ntmps188,hq2]
  refine (E5 p W).mono ?_;rintro e w' ⟨rfl,rfl⟩;simp [go_sem,hl2,C2,bodyPostS,results,Tryz.results188,Array.replicate]
  cases c₀
  simp_all
 ·skip
  simp [wpOpsS,go_sem,recoverD,hu,Tryz.ntmps188]
  refine (E5 p W).mono ?_;rintro e w' ⟨rfl,rfl⟩;simp [go_sem,hq2,hl2,C2,bodyPostS,results,Tryz.results188,Array.replicate]
  cases c₀
  simp_all
theorem Q8w (b i k:Nat) (q:Addr) (l:Nat) (x z:Value) (older:List PanicEntry) (w:World) (hc:w.cell? ⟨b,i,none⟩=some x) (hf:w.frozen? ⟨b,i,none⟩=false) (hb:b<w.heap.size) (hq:w.cell? q=some (.pointer (some ⟨l,0,none⟩))) (Qle:q.block<w.heap.size) (Qyf: ¬q.block=b)
  (hl:w.cell? ⟨l,5,none⟩=some z) (hlf:w.frozen? ⟨l,5,none⟩=false) (hlb:l<w.heap.size) (hln: ¬l=b):
  CallsD Tryz.prog 188 #[.pointer (some ⟨b,i,none⟩), .pointer (some q)] (.panicking ({v:= .iface 280 (.agg #[.int .i64 (k:Int)]),recovered:=false}::older)) w λe u' w'=>
   e= .returned (.tuple #[])/\u'= .panicking ({v:= .iface 280 (.agg #[.int .i64 (k:Int)]),recovered:=true}::older)/\ ∃o,w'=((w.drew.setCell ⟨b,i,none⟩ (.int .i64 (k:Int))).alloc o).setCell ⟨l,5,none⟩ (.bool true):=by
 refine callsD_of_wpS Tryz.func188 rfl λc₀ cs hu=>?_;refine Ow [[0,1,2,3,4,5],[1,0,2,3,4,5],[1,2,0,3,4,5]] (by kernel_rfl) (by kernel_rfl) ?_;have hc2:w.drew.cell? ⟨b,i,none⟩=some x:=hc;have hf2:w.drew.frozen? ⟨b,i,none⟩=false:=hf;have hb2:b<w.drew.heap.size:=hb;have hq2:w.drew.cell? q=some (.pointer (some ⟨l,0,none⟩)):=hq;have Qwn:q.block<w.drew.heap.size:=Qle;have hl2:w.drew.cell? ⟨l,5,none⟩=some z:=hl;have C2:w.drew.frozen? ⟨l,5,none⟩=false:=hlf;have Q8b:l<w.drew.heap.size:=hlb;obtain ⟨W,hW⟩: ∃W,W=w.drew:=⟨_,rfl⟩;change ∀J2q∈_,wpOpsS _ _ _ J2q _ _ w.drew
 rw [<-hW] at hc2 hf2 hb2 hq2 Qwn hl2 C2 Q8b⊢;clear hW hc hf hb hq Qle hl hlf hlb;have hnx: ∀o,Kp (λj=>j=b) W ((W.setCell ⟨b,i,none⟩ (.int .i64 (k:Int))).alloc o):=λo=>((Kp.refl (λj=>j=b) W).setCell (p:=⟨b,i,none⟩) (.inl rfl) _).alloc _;intro o ho;simp only [List.mem_cons,List.not_mem_nil,or_false] at ho;rcases ho with rfl|rfl|rfl
 ·skip
  simp [wpOpsS,go_sem,recoverD,hu,Tryz.ntmps188,hq2]
  refine (En b i k x W hc2 hf2 hb2).mono ?_;rintro e w' ⟨rfl,ob,rfl⟩;have hk:=hnx ob;have hl3:=(hk.cell (p:=⟨l,5,none⟩) Q8b hln).trans hl2;have Q2h:=(hk.frozen (p:=⟨l,5,none⟩) Q8b hln).trans C2;obtain ⟨W3,hW3⟩: ∃W3,W3=(W.setCell ⟨b,i,none⟩ (.int .i64 (k:Int))).alloc ob:=⟨_,rfl⟩;rw [<-hW3] at hl3 Q2h⊢;simp [go_sem,hl3,Q2h,bodyPostS,results,Tryz.results188,Array.replicate]
  exact ⟨ob,by rw [hW3]⟩
 ·skip
  simp [wpOpsS,go_sem,recoverD,hu,Tryz.ntmps188,hq2]
  refine (En b i k x W hc2 hf2 hb2).mono ?_;rintro e w' ⟨rfl,ob,rfl⟩;have hk:=hnx ob;have hl3:=(hk.cell (p:=⟨l,5,none⟩) Q8b hln).trans hl2;have Q2h:=(hk.frozen (p:=⟨l,5,none⟩) Q8b hln).trans C2;obtain ⟨W3,hW3⟩: ∃W3,W3=(W.setCell ⟨b,i,none⟩ (.int .i64 (k:Int))).alloc ob:=⟨_,rfl⟩;rw [<-hW3] at hl3 Q2h⊢;simp [go_sem,hl3,Q2h,bodyPostS,results,Tryz.results188,Array.replicate]
  exact ⟨ob,by rw [hW3]⟩
 ·skip
  simp [wpOpsS,go_sem,recoverD,hu,Tryz.ntmps188]
  refine (En b i k x W hc2 hf2 hb2).mono ?_;rintro e w' ⟨rfl,ob,rfl⟩;have hk:=hnx ob;have hl3:=(hk.cell (p:=⟨l,5,none⟩) Q8b hln).trans hl2;have Q2h:=(hk.frozen (p:=⟨l,5,none⟩) Q8b hln).trans C2;obtain ⟨W3,hW3⟩: ∃W3,W3=(W.setCell ⟨b,i,none⟩ (.int .i64 (k:Int))).alloc ob:=⟨_,rfl⟩;rw [<-hW3] at hl3 Q2h⊢;simp [go_sem,hW3▸(hk.cell Qwn Qyf).trans hq2,hl3,Q2h,bodyPostS,results,Tryz.results188,Array.replicate]
  exact ⟨ob,by rw [hW3]⟩
abbrev Xo (m c:Int):Value:= .agg #[.int .i64 m, .int .i64 c]
def Qyl (n:Int):Bool:=decide (0<=n)&&decide (n<=281474976710655)
theorem Q52 (n:Int) (w:World):Calls Tryz.prog 252 #[.int .i64 n] w λe w'=>e= .returned (.bool (Qyl n))/\w=w':=by
 unfold Qyl;by_cases h0:0<=n
 ·by_cases h1:n<=281474976710655
  ·have b0:decide (0<=n)=true:=by simpa using h0
   have b1:decide (n<=281474976710655)=true:=by simpa using h1
   go_enter Tryz.func252,Tryz.ntmps252
   go_wp2_with fail
   go_ret
   exact ⟨by simp [*],rfl⟩
  ·have b0:decide (0<=n)=true:=by simpa using h0
   have b1:decide (n<=281474976710655)=false:=by simpa using h1
   go_enter Tryz.func252,Tryz.ntmps252
   go_wp2_with fail
   go_ret
   exact ⟨by simp [*],rfl⟩
 ·have b0:decide (0<=n)=false:=by simpa using h0
  go_enter Tryz.func252,Tryz.ntmps252
  go_wp2_with fail
  go_ret
  exact ⟨by simp [*],rfl⟩
theorem three (a b c:Int) (_:a<=b):c<a\/(a<=c/\c<=b)\/b<c:=by omega
theorem Qh7 (m c:Int) (w:World):Calls Tryz.prog 200 #[Xo m c] w λe w'=>e= .returned (.bool (Jp m c))/\Kp No w w':=by
 have e0:Jp m c=(Qyl m&&decide (0<=c)&&decide (c<=65535)):=rfl;rw [e0];clear e0;cases hM:Qyl m
 all_goals
  have HM:=zz hM;clear hM;rcases three 0 65535 c (by decide) with h0|⟨h0,h1⟩|h0
  all_goals
   go_enter Tryz.func200,Tryz.ntmps200
   go_wp2_with fail
   refine (Q52 _ _).mono ?_;rintro e w' ⟨rfl,rfl⟩;rw [HM.out];go_wp2_with fail
   go_ret
   refine ⟨?_,zK.alloc _⟩;try simp [h0]
   try omega
theorem Vq (m c:Int) (w:World):Calls Tryz.prog 74 #[Xo m c] w λe w'=>e= .returned (.bool (Jp m c))/\Kp No w w':=by
 unfold Jp;rcases three 0 281474976710655 m (by decide) with g0|⟨g0,g1⟩|g0
 all_goals
  rcases three 0 65535 c (by decide) with h0|⟨h0,h1⟩|h0
  all_goals
   go_enter Tryz.func74,Tryz.ntmps74
   go_wp2_with fail
   go_ret
   refine ⟨?_,zK.alloc _⟩;simp [*]
   try omega
theorem Qxc {m c:Int} (h:Jp m c=true):bits .or .u64 (m*65536) c=((pk m c:Nat):Int):=by
 obtain ⟨h1,h2,h3,h4⟩:=Zh.1 h;obtain ⟨a,rfl⟩:=Int.eq_ofNat_of_zero_le h1;obtain ⟨b,rfl⟩:=Int.eq_ofNat_of_zero_le h3;have e:((a:Int)*65536)=((2^16*a:Nat):Int):=by omega
 rw [e,Q9o rfl (by show 2^16*a<2^64;omega) (by show b<2^64;omega),<-Nat.two_pow_add_eq_or_of_lt (by omega:b<2^16)];unfold pk;omega
theorem Z2 (m c:Int) (w:World) (h:Jp m c=true):Calls Tryz.prog 126 #[Xo m c] w λe w'=>e= .returned (.tuple #[.int .u64 (pk m c:Int), .int .i64 0])/\Kp No w w':=by
 have HP:=zz (Qxc h);obtain ⟨h1,h2,h3,h4⟩:=Zh.1 h;have HH:=zz h;clear h;go_enter Tryz.func126,Tryz.ntmps126
 go_wp2_with fail
 refine (Qh7 _ _ _).mono ?_;rintro e w' ⟨rfl,hk⟩;rw [HH.out];have hk':Kp No w w':=(zK.alloc _).trans_same hk;have hc:=hk.get (heap_alloc_new w _) λx=>x;have c0:=Q0 hc 0;have c1:=Q0 hc 1;simp at c0 c1
 clear hc hk;go_wp2_with fail
 go_ret2
 exact ⟨by rw [HP.out];rfl,hk'⟩
theorem Zn (m c:Int) (w:World) (h:Jp m c=false):Calls Tryz.prog 126 #[Xo m c] w λe w'=>e= .returned (.tuple #[.int .u64 0, .int .i64 1])/\Kp No w w':=by
 have HH:=zz h;clear h;go_enter Tryz.func126,Tryz.ntmps126
 go_wp2_with fail
 refine (Qh7 _ _ _).mono ?_;rintro e w' ⟨rfl,hk⟩;rw [HH.out];have hk':Kp No w w':=(zK.alloc _).trans_same hk;clear hk;go_wp2_with fail
 go_ret2
 exact ⟨rfl,hk'⟩
end Go.Proofs.YtgnkmjeoaoongaaGreatDoor
