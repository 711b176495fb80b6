/- store -/
import Derived.Test.YtgnkmjeoaoongaaGreatDoorVe1
import Derived.Test.YtgnkmjeoaoongaaGreatDoorVe8
import Derived.Test.YtgnkmjeoaoongaaGreatDoorVe7
set_option maxRecDepth 100000
set_option maxHeartbeats 8000000
open Nat (le_refl)
namespace Go.Proofs.YtgnkmjeoaoongaaGreatDoor
open Go.RowKit Go.Mer
theorem Q5v {P:ByteArray} {s:Qz} {lg:Jf} {A:List Bo} {T N:Nat} (h:Laid P s lg A) (hr:Roomy s T N) (hP:P.size<=50) (hd:lg.dead=false) (hs:lg.synced=lg.Qi.length) (hn:lg.Qi.length+1<900000) {p:List UInt8} (hp:p.length<=262134) (hT:T+(p.length+16)<=1048576) (hN:N<4096) {f:Nat} (hf:f<=1):
  (J7 P {s with Jo:=some f} lg p).1=9:=by
 have hpre: ∀t:Qz,Ju P t lg=(0,t,lg):=λt=>by
  unfold Ju J0;rw [if_neg (by omega: ¬lg.synced<lg.Qi.length)];split<;>rfl
 have h1:(Jz P s lg p).1.2=0:=by rw [(Q6p h hr hP hd (by omega) hp hT hN).1]
 unfold Jz at h1;rw [if_neg (by rw [hd];decide),if_neg (by omega),hpre s] at h1;simp only [if_true] at h1
 have hq:(Gy s (toN P lg) (Zo (lg.Qi.length+1) p)).1=0:=by
  by_cases hq:(Gy s (toN P lg) (Zo (lg.Qi.length+1) p)).1=0
  ·exact hq
  ·rw [if_neg hq] at h1;exact h1
 obtain ⟨b,hb⟩: ∃b,b=Zo (lg.Qi.length+1) p:=⟨_,rfl⟩;obtain ⟨nm,hnm⟩: ∃b,b=toN P lg:=⟨_,rfl⟩;rw [<-hb,<-hnm] at hq
 have hok:[nm].all Jq=true/\Zr s nm b=0:=by
  unfold Gy five at hq;rw [if_neg (by rw [hr.free.Jo];simp)] at hq;split at hq
  ·next hn=>
   refine ⟨hn,?_⟩;split at hq
   ·next hc=>exact hc
   ·next hc=>exact absurd hq hc
  ·cases hq
 have hwr:Gy {s with Jo:=some f} nm b=if f=0 then (9,{s with Jo:=some f}) else (0,{s with Jo:=some (f-1),files:=Jg s.files nm b}):=by
  have hc:Zr {s with Jo:=some f} nm b=0:=hok.2;unfold Gy five;rw [hc,if_pos hok.1];simp only [Option.some.injEq,if_true,Option.map_some]
 have happ:Jz P {s with Jo:=some f} lg p=if f=0 then ((0,9),{s with Jo:=some f},{lg with dead:=true}) else ((lg.Qi.length+1,0),{s with Jo:=some (f-1),files:=Jg s.files nm b},Y5 lg p):=by
  unfold Jz;rw [if_neg (by rw [hd];decide),if_neg (by omega),hpre];simp only [if_true];rw [<-hb,<-hnm,hwr];rcases (show f=0\/f=1 by omega) with rfl|rfl
  ·rfl
  ·rfl
 unfold J7;rw [happ];rcases (show f=0\/f=1 by omega) with rfl|rfl
 ·rfl
 ·simp only [if_false,if_true,Nat.one_ne_zero,Nat.sub_self];unfold Yi;rw [if_neg (by show ¬lg.dead=true;rw [hd];decide)];simp only
  have hlt:(Y5 lg p).synced<(Y5 lg p).Qi.length:=by
   show lg.synced<(lg.Qi++[p]).length
   rw [List.length_append];simp
   omega
  have hsg: ∃z,(Y5 lg p).Qk.getLast?=some z:=by
   have hne:(Y5 lg p).Qk≠[]:=by
    show (if Jj lg=true then lg.Qk++[_] else bump lg.Qk _)≠[]
    split
    ·simp
    ·next hfr=>
     unfold Jj at hfr;unfold bump;cases hl:lg.Qk.getLast? with
     |none=>rw [hl] at hfr;simp at hfr
     |some z=>simp
   cases hg:(Y5 lg p).Qk.getLast? with
   |none=>exact absurd (List.getLast?_eq_none_iff.1 hg) hne
   |some z=>exact ⟨z,rfl⟩
  obtain ⟨z,hz⟩:=hsg;unfold J0;rw [if_pos hlt,hz];simp only
  unfold Da five;rw [if_pos rfl]
theorem Q8o {x:Qu} (h:Z4 x=true):(Gv [x]).length<=1184:=by
 have h1:=Ea (l:=[x]) (λr hr=>by rw [List.mem_singleton.1 hr];exact h);have h2:=Js 0 1 (by decide);unfold Gv Fl;rw [List.length_append,List.length_append];simp only [List.length_singleton] at h1⊢;omega
structure Qtm (k:Nat) (st:Ja) (ds:Qz) (lg:Jf):Prop where
 at_:Qoz Kv 0 ds st lg
 roomy:Roomy ds (1200*k) k
 live:st.dead=false
 Qi:lg.Qi.length<=k
 Zc:st.Zc=0
 five:st.of.length=5
 low: ∀i,0<=(Qn st.of i).m/\(Qn st.of i).m<=65535*k/\0<=(Qn st.of i).seq/\(Qn st.of i).seq<=k
theorem Qn2:(Zj Kv 0).size<=50:=by rw [Kj];decide
theorem Qqn (i:Nat):Qn Er.of i=⟨0,0,0⟩:=by
 unfold Qn;rw [List.getD_eq_getElem?_getD];show ((List.replicate 5 (⟨0,0,0⟩:Z1))[i]?).getD _=_
 rw [List.getElem?_replicate];split<;>rfl
theorem Q3i (o:Nat): ∀(L:List Qu) (st:Ja),(Jh o st L).dead=st.dead
 |[],_=>rfl
 |r::L,st=>Q3i o L (E7 o st r)
theorem Qpg {k:Nat} {st:Ja} {ds:Qz} {lg:Jf} (h:Q2h k st ds lg) (hk:k<=800):Qtm k st ds lg:=by
 induction h with
 |emp=>
  refine ⟨⟨A9 (by decide),rfl,⟨[],⟨rfl,rfl,trivial,λ_ h=>(by cases h),λ_ h=>(by cases h),λp hp=>absurd hp List.not_mem_nil,λA0 g h=>(by cases A0<;>cases h),le_refl _,λ_ h=>(by cases h)⟩⟩,⟨Er,rfl,Bv.refl _⟩,rfl,rfl,λh=>absurd h (by decide),λc hc=>by cases hc⟩,⟨⟨rfl,List.nodup_nil,λp hp=>absurd hp List.not_mem_nil⟩,rfl,le_refl _,le_refl _⟩,rfl,le_refl _,rfl,rfl,λi=>?_⟩;rw [Qqn];exact ⟨by decide,by decide,by decide,by decide⟩
 | @put k st ds lg h r ih=>
  obtain ⟨h1,h2,h3,h4,h5,h6,h7⟩:=ih (by omega);obtain ⟨l,hl⟩: ∃l,l=Gp st.of [r]:=⟨_,rfl⟩;have hl1:l=[Xi st.of r]:=hl;have hlen:l.length=1:=by rw [hl1];rfl
  have hne:l≠[]:=by rw [hl1];simp
  have hQ:(Zj Kv st.Zc).size<=50:=by rw [h5];exact Qn2
  rw [<-hl];by_cases hm:V7 st l=0
  ·obtain ⟨m1,m2,m3⟩:=Ik hm
   have hp:(Gv l).length<=1184:=by
    have hb:=Q8o (m2 (Xi st.of r) (by rw [hl1];exact List.mem_singleton_self _));rw [hl1];exact hb
   obtain ⟨e,hro⟩:=Qc7 h1 h3 h2 hQ (by omega) (by omega:l.length≠0) hm (by omega) (by omega);have h0:(J8 Kv 0 ds st lg l).1=0:=by rw [e]
   have hat:=Qmk h1 hQ (by omega) h0;obtain ⟨A,hA⟩:=h1.laid;have hen:=(Bm hA hQ (by omega) (Gv l)).2.2.1;obtain ⟨_,hst⟩:=Q3v h0 h3 hne
   have hof:(J8 Kv 0 ds st lg l).2.2.1.of=Z2 st.of (Xi st.of r):=by
    rw [hst,hl1];rfl
   refine ⟨hat,⟨hro.free,hro.room,by have:=hro.tot;omega,by have:=hro.len;omega⟩,by rw [e];exact (Q3i 0 l st).trans h3,?_,by rw [Ip];exact h5,by rw [hof];unfold Z2;rw [List.length_set];exact h6,λi=>?_⟩
   ·rw [e];show (J7 (Zj Kv st.Zc) ds lg (Gv l)).2.2.Qi.length<=k+1
    rcases hen with hen|hen
    ·rw [hen];omega
    ·rw [hen,List.length_append];simp;omega
   ·rw [hof];unfold Z2;rw [Qtf,Fm (by rw [h6];exact Qec r)];have ha:=Qeb r;have hb:=h7 (Km r);have hc:=h7 i;have hm2:(Xi st.of r).v.m=Md st.of r:=(Q0x r _ _).1;split
    ·simp only
     rw [hm2];have hs:(Xi st.of r).seq=(Qn st.of (Km r)).seq+1:=rfl;rw [hs];unfold Md;omega
    ·omega
  ·rw [Qgl h3 hne hm];exact ⟨h1,⟨h2.free,h2.room,Nat.le_trans h2.tot (by omega),Nat.le_trans h2.len (by omega)⟩,h3,by show lg.Qi.length<=k+1;omega,h5,h6,λi=>by have:=h7 i;show 0<=(Qn st.of i).m/\(Qn st.of i).m<=_/\0<=(Qn st.of i).seq/\(Qn st.of i).seq<=_;omega⟩
def E3 (st:Ja):Qu:=⟨0,(Qn st.of 0).seq+1,Qtg,⟨(Qn st.of 0).m+1,0,0,[],false,0⟩⟩
theorem Qlx {k:Nat} {st:Ja} {ds:Qz} {lg:Jf} (h:Qtm k st ds lg) (hk:k<=800) (hm:st.mm=0/\st.mc=0):V7 st [E3 st]=0:=by
 have hl:=h.low 0;have hr:Z4 (E3 st)=true:=Y9.2 ⟨Zi.2 ⟨⟨by show (0:Int)<=(Qn st.of 0).m+1;omega,by show (Qn st.of 0).m+1<=(281474976710655:Int);omega,(show (0:Int)<=0 by decide),(show (0:Int)<=65535 by decide)⟩,(show (0:Int)<=0 by decide),(show (0:Int)<5 by decide),Nat.zero_le _,(show (0:Int)<=0 by decide),(show (0:Int)<=281474976710655 by decide),λh=>by cases h⟩,rfl,by show (1:Int)<=(Qn st.of 0).seq+1;omega,by show (Qn st.of 0).seq+1<=(1099511627776:Int);omega,(show 1<=Qtg.size by decide),(show Qtg.size<=64 by decide)⟩;rw [Qc3 (by simp) (λr h=>by rw [List.mem_singleton.1 h];exact hr),if_pos];show (Uv st.mm st.mc st.of (E3 st)&&true)=true
 rw [Bool.and_true,Le,Bool.and_eq_true,decide_eq_true_iff,Bool.and_eq_true];refine ⟨rfl,Kn.2 (.inl ?_),Kn.2 (.inl ?_)⟩
 ·show (Qn st.of 0).m<(Qn st.of 0).m+1
  omega
 ·show st.mm<(Qn st.of 0).m+1
  rw [hm.1];omega
theorem Qjr {k:Nat} {st:Ja} {ds:Qz} {lg:Jf} (h:Qtm k st ds lg) (hk:k<=800) (hm:st.mm=0/\st.mc=0) {f:Nat} (hf:f<=1):
  (J8 Kv 0 {ds with Jo:=some f} st lg [E3 st]).1=9/\(J8 Kv 0 {ds with Jo:=some f} st lg [E3 st]).2.2.1={st with dead:=true}:=by
 obtain ⟨A,hA⟩:=h.at_.laid;have Qbo:=Qlx h hk hm;obtain ⟨m1,m2,m3⟩:=Ik Qbo;have hp:(Gv [E3 st]).length<=1184:=Q8o (m2 _ (List.mem_singleton_self _));have hw:=Q5v hA h.roomy (by rw [h.Zc];exact Qn2) h.at_.alive h.at_.Qth (by have:=h.Qi;omega) (p:=Gv [E3 st]) (by omega) (by omega) (by omega) hf;unfold J8;rw [if_neg (by rw [h.live];decide),if_neg (by simp),if_pos Qbo];simp only
 rw [hw];exact ⟨rfl,rfl⟩
section
variable {w0 w w':World} {p d s r x o B l m:Nat} {P:ByteArray} {st st':Ja} {ds ds':Qz} {lg X9:Jf} {H1 H2:Nat->Prop} {cs:Zn} {ka:Option Addr} {kc:Nat} {K:List Qe}
theorem Qml (h:X6 w s d l P o st m cs ka kc K) (hd:st.dead=true) (a:Option Addr) (n c:Nat):Calls Tryz.prog 18 #[.pointer (some ⟨s,0,none⟩), .slice a n c] w λe w'=>e= .returned (.int .i64 9)/\Kp No w w':=by
 have ha:=Ng h;rw [if_pos hd] at ha;have HA:=zz ha;clear h hd ha;go_enter Tryz.func18,Tryz.ntmps18
 go_wp2_with fail
 refine HA.out.mono ?_;rintro e w1 ⟨rfl,rfl⟩;go_wp2_with fail
 go_ret
 exact ⟨rfl,Kp.refl _ _⟩
theorem Qh9 (h:X6 w s d l P o st m cs ka kc K) (hd:st.dead=true) (t1 t2:Int):Calls Tryz.prog 23 #[.pointer (some ⟨s,0,none⟩),Xl t1 t2] w λe w'=>e= .returned (.tuple #[.int .i64 0, .int .i64 9])/\Kp No w w':=by
 obtain ⟨w1,hw1⟩: ∃W,W=w.alloc (.cells #[.int .i64 t1, .int .i64 t2] 25):=⟨_,rfl⟩;have k1:Kp No w w1:=by rw [hw1];exact zK.alloc _
 have ha:=Ng (h.Q9 k1);rw [if_pos hd] at ha;have HA:=zz ha;have HW1:=zz hw1;have Yq:=zz k1;clear h hd ha hw1 k1;go_enter Tryz.func23,Tryz.ntmps23
 go_upto_region 1 with fail
 rw [<-HW1.out];go_wp2_with fail
 refine HA.out.mono ?_;rintro e w2 ⟨rfl,rfl⟩;go_wp2_with fail
 go_ret2
 exact ⟨rfl,Yq.out⟩
theorem Q4g (h:X6 w s d l P o st m cs ka kc K) (hd:st.dead=true):Calls Tryz.prog 39 #[.pointer (some ⟨s,0,none⟩)] w λe w'=>e= .returned (.int .i64 9)/\Kp No w w':=by
 have ha:=Ng h;rw [if_pos hd] at ha;have HA:=zz ha;clear h hd ha;go_enter Tryz.func39,Tryz.ntmps39
 go_wp2_with fail
 refine HA.out.mono ?_;rintro e w1 ⟨rfl,rfl⟩;go_wp2_with fail
 go_ret
 exact ⟨rfl,Kp.refl _ _⟩
theorem Qt.dead (h:Qt w0 w p d s r x P o st ds lg st' ds' X9 B H1 H2) (hd:st.dead=true):
  (∀a n c,Calls Tryz.prog 18 #[.pointer (some ⟨s,0,none⟩), .slice a n c] w λe w'=>e= .returned (.int .i64 9)/\Kp No w w')/\(∀t1 t2,Calls Tryz.prog 23 #[.pointer (some ⟨s,0,none⟩),Xl t1 t2] w λe w'=>e= .returned (.tuple #[.int .i64 0, .int .i64 9])/\Kp No w w')/\Calls Tryz.prog 39 #[.pointer (some ⟨s,0,none⟩)] w λe w'=>e= .returned (.int .i64 9)/\Kp No w w':=by
 obtain ⟨l,m,cs,ka,kc,K,F,G,h1,_⟩:=h.prog;exact ⟨λa n c=>Qml h1.st hd a n c,λt1 t2=>Qh9 h1.st hd t1 t2,Q4g h1.st hd⟩
theorem Qt.Jo (h:Qt w0 w p d s r x P o st ds lg st' ds' X9 B H1 H2) (n:Int) (hn:n<=9223372036854775807):
  Calls Tryz.prog 38 #[.pointer (some ⟨d,0,none⟩), .int .i64 n] w λe w'=>e= .returned (.tuple #[])/\Qt w0 w' p d s r x P o st (Qpp ds n) lg st' ds' X9 B H1 H2/\Kp H1 w w':=by
 obtain ⟨l,m,cs,ka,kc,K,F,G,h1,h2,h3,h4,h5⟩:=h.prog
 have J70:F d:=by
  obtain ⟨_,_,_,_,_,_,_,hF,_⟩:=h1.at_.disk;exact hF d (.inl rfl)
 have hH:H1 d:=h4 d (.inr (.inl J70));refine (Qi9 w d ds F h1.at_.disk n hn).mono ?_;rintro e w' ⟨rfl,hD,hk⟩;have Q3d:Kp H1 w w':=hk.mono λi _ hi=>by rw [show i=d from hi];exact hH
 have hs0:=h.kp.size;refine ⟨rfl,⟨Q3d.get h.cell h.p1,⟨l,m,cs,ka,kc,K,F,G,⟨h1.st.keep hk λk hf e=>h1.sF k hf (by rw [show k=d from e];exact J70),⟨hD,h1.at_.log.keep hk λk hg e=>h1.at_.sep k (by rw [show k=d from e];exact J70) hg,h1.at_.sep⟩,h1.sF,h1.sG⟩,h2,h3,h4,λk hf=>Q3d.lt (h5 k hf)⟩,h.ref.keep Q3d λk h2 hh=>h.sep k hh h2,h.sep,h.p1,h.p2,h.new,h.kp.trans Q3d λi hi hh=>?_⟩,Q3d⟩;have:=h.new.2.1 i hh;omega
end
theorem Qfy {k:Nat} {P:ByteArray} {ds:Qz} {st:Ja} {lg:Jf} (h:Bu k P ds st lg) (n:Int):Bu k P (Qpp ds n) st lg:=
 ⟨⟨h.fit.room,h.fit.ok,h.fit.hne,h.fit.hsl,h.fit.no,h.fit.Qi,h.fit.Qk,h.fit.big⟩,λhd=>⟨(h.whole hd).1,(h.whole hd).2.tr,(h.whole hd).2.only,(h.whole hd).2.rise,(h.whole hd).2.pos⟩,h.n⟩
theorem Qgz (w:World) (Yo:Pow w) (a:Option Addr) (cap:Nat) (L:List RowR) (hL:RowsIn w a L) (hcp:L.length<=cap) (hl:L.length<=140737488351232) (fu t1 t2:Int) (ht:t1<=9223372036854775807):
  Calls Tryz.prog 7 #[.slice a L.length cap, .int .i64 fu,Xl t1 t2] w λe w'=>e= .returned (.bool true)/\Kp No w w':=by
 obtain ⟨n,Xw⟩: ∃n,n=L.length:=⟨_,rfl⟩;obtain ⟨wA,hwA⟩: ∃W,W=w.alloc (.cells #[.int .i64 t1, .int .i64 t2] 25):=⟨_,rfl⟩;obtain ⟨w1,hw1⟩: ∃W,W=wA.alloc (.cells #[.int .i64 0, .int .i64 0, .int .u8 0, .int .i64 0, .int .i64 0, .slice a n cap, .slice none 0 0] 28):=⟨_,rfl⟩;obtain ⟨tb,htb⟩: ∃b,b=w.heap.size:=⟨_,rfl⟩;obtain ⟨b,hb⟩: ∃b,b=wA.heap.size:=⟨_,rfl⟩;have kA:Kp No w wA:=by rw [hwA];exact zK.alloc _
 have k1:Kp No wA w1:=by rw [hw1];exact zK.alloc _
 have bt:wA.heap[tb]?=some (.cells #[.int .i64 t1, .int .i64 t2] 25 (0,0)):=by rw [hwA,htb];exact heap_alloc_new w _
 have Qli:=kA.Q0 k1;have hh:=L4 w1 b a cap L (by rw [hw1,hb,Xw];exact heap_alloc_new wA _) (hL.kp Qli) hl;have HT:=zz (k1.get bt λx=>x);have HH:=zz hh;have HW:=zz (And.intro hwA (And.intro hw1 (And.intro htb hb)));have Yq:=zz Qli;have HN:=zz Xw;have HL:=zz hL;have Dd:=zz Yo;rw [<-Xw] at hcp⊢;simp only [Xl];have Qs1:=zz hcp;clear Yo hL hl hwA hw1 htb hb kA k1 bt Qli hh Xw hcp;go_enter Tryz.func7,Tryz.ntmps7
 go_upto_region 1 with fail
 rw [<-HW.out.1,<-HW.out.2.2.1];go_wp2_with fail
 rw [<-HW.out.2.1,<-HW.out.2.2.2];refine HH.out.mono ?_;rintro e w2 ⟨hb,rfl,himp,k2⟩;have J9:=zz (Yq.out.Q0 k2);have HT2:=zz (k2.get HT.out λx=>x);clear k2 HH HT himp;cases hb with
 |true=>
  have U3:=zz (Jv w2 (Dd.out.keep J9.out));go_wp2_with fail
  refine U3.out.mono ?_;rintro e wz ⟨rfl,kz⟩;have Lp:=zz (J9.out.Q0 kz);clear kz U3;go_wp2_with fail
  go_ret
  exact ⟨rfl,Lp.out⟩
 |false=>
  rcases Nat.lt_or_ge 40 n with h64|h64
  ·have d1:decide ((40:Int)<(n:Int))=true:=decide_eq_true (by omega);have d1':decide (40<n)=true:=decide_eq_true h64;clear h64;have U3:=zz (Jv w2 (Dd.out.keep J9.out));go_wp2_with fail
   refine U3.out.mono ?_;rintro e wz ⟨rfl,kz⟩;have Lp:=zz (J9.out.Q0 kz);clear kz U3;go_wp2_with fail
   go_ret
   exact ⟨rfl,Lp.out⟩
  have d1:decide ((40:Int)<(n:Int))=false:=decide_eq_false (by omega);have d1':decide (40<n)=false:=decide_eq_false (by omega);rcases Int.lt_or_le fu 0 with hf0|hf0
  ·have d2:decide (fu<0)=true:=decide_eq_true hf0;clear hf0;have U3:=zz (Jv w2 (Dd.out.keep J9.out));go_wp2_with fail
   refine U3.out.mono ?_;rintro e wz ⟨rfl,kz⟩;have Lp:=zz (J9.out.Q0 kz);clear kz U3;go_wp2_with fail
   go_ret
   exact ⟨rfl,Lp.out⟩
  have d2:decide (fu<0)=false:=decide_eq_false (by omega);rcases Int.lt_or_le 1 fu with hf1|hf1
  ·have d3:decide (1<fu)=true:=decide_eq_true hf1;clear hf1;have U3:=zz (Jv w2 (Dd.out.keep J9.out));go_wp2_with fail
   refine U3.out.mono ?_;rintro e wz ⟨rfl,kz⟩;have Lp:=zz (J9.out.Q0 kz);clear kz U3;go_wp2_with fail
   go_ret
   exact ⟨rfl,Lp.out⟩
  have d3:decide (1<fu)=false:=decide_eq_false (by omega);have hfl:=Gw w2 (Dd.out.keep J9.out) a cap L (HL.out.kp J9.out) (by rw [<-HN.out];exact Qs1.out) (by rw [<-HN.out];omega);rw [<-HN.out] at hfl;have Ao:=zz hfl;clear hfl;go_wp2_with fail
  refine Ao.out.mono ?_;rintro e w3 ⟨p,d,s,r,x,H1,H2,st,ds,lg,rfl,hP,hq⟩;have hfil:=Q4l hq (by omega);have hfr:=Qpg hq (by omega);have c1:w3.cell? ⟨p,1,none⟩=some (.pointer (some ⟨s,0,none⟩)):=hP.at_ zK 1;have lp:=Q7 hP.cell;have HT3:=zz (hP.kp.get HT2.out λx=>x);have Gg:=zz (Q7 HT2.out);obtain ⟨Jje,Jjg,cs0,Ln,Jj8,K0,F0,G0,J2h,_⟩:=hP.prog;have Kx:=zz (B3 J2h.st 0 (by decide));obtain ⟨sq,Q4w⟩: ∃v,v=(Qn st.of 0).seq:=⟨_,rfl⟩;obtain ⟨sm,hsm⟩: ∃v,v=(Qn st.of 0).m:=⟨_,rfl⟩;obtain ⟨sc,hsc⟩: ∃v,v=(Qn st.of 0).c:=⟨_,rfl⟩;have hlow:=hfr.low 0;rw [<-Q4w,<-hsm] at hlow;simp only [Xl] at Kx;rw [<-Q4w,<-hsm,<-hsc] at Kx;have Jao:=zz (And.intro Q4w hsm);have Jih:=hlow.2.2.1;have Jii:sq<=100:=by have:=hlow.2.2.2;omega
  have Jf6:=hlow.1;have Jf7:sm<=10000000:=by have:=hlow.2.1;omega
  have K7:=zz (And.intro hfil hfr);have Ap:=zz hP;clear hP hq hfil hfr Ao HT2 J2h Q4w hsm hsc hlow;go_wp2_with fail
  refine Kx.out.mono ?_;rintro e w4 ⟨rfl,k4⟩;obtain ⟨w5,hw5⟩: ∃W,W=w4.alloc (.cells #[.int .i64 sm, .int .i64 sc] 25):=⟨_,rfl⟩;obtain ⟨q10,hq10⟩: ∃b,b=w4.heap.size:=⟨_,rfl⟩;have Q66:Kp No w4 w5:=by rw [hw5];exact zK.alloc _
  have J8u:=k4.Q0 Q66;have b10:w5.heap[q10]?=some (.cells #[.int .i64 sm, .int .i64 sc] 25 (0,0)):=by rw [hw5,hq10];exact heap_alloc_new w4 _
  have Qxf:=zz (Ap.out.no J8u);have Jee:=zz (J8u.get HT3.out λx=>x);have Qtp:=zz (And.intro b10 (show w3.heap.size<=q10 from by rw [hq10];exact k4.size));have Q2w:=zz (And.intro hw5 hq10);have c0:w5.cell? ⟨p,0,none⟩=some (.pointer (some ⟨d,0,none⟩)):=Qxf.out.at_ zK 0;have Qte:=Q7 Qxf.out.cell;have Ja6:=zz (Qxf.out.Jo fu (by omega));clear k4 hw5 hq10 Q66 J8u b10 c1 lp Kx;go_upto_region 7 with fail
  rw [<-Q2w.out.1,<-Q2w.out.2];go_wp2_with fail
  refine Ja6.out.mono ?_;rintro e w6 ⟨rfl,Q2o,hk6⟩;have hH1:=Ap.out.prog.lt;have b6:=hk6.get Qtp.out.1 λhh=>by have:=hH1 _ hh;have:=Qtp.out.2;omega
  have e0:w6.cell? ⟨q10,0,none⟩=some (.int .i64 sm):=Q4 b6 0;have l10:=Q7 b6;have Ma:=zz Q2o;have Qxi:=zz (hk6.get Jee.out λhh=>by have:=Ap.out.new.2.1 _ hh;have:=Gg.out;omega);obtain ⟨w7,hw7⟩: ∃W,W=w6.alloc (.cells #[.int .i64 0, .int .i64 (sq+1), .string ⟨#[107]⟩, .int .i64 (sm+1), .int .i64 0, .int .i64 0, .slice none 0 0, .bool false, .int .i64 0] 46):=⟨_,rfl⟩;obtain ⟨q11,hq11⟩: ∃b,b=w6.heap.size:=⟨_,rfl⟩;have Q7q:Kp No w6 w7:=by rw [hw7];exact zK.alloc _
  have b11:w7.heap[q11]?=some (.cells #[.int .i64 0, .int .i64 (sq+1), .string ⟨#[107]⟩, .int .i64 (sm+1), .int .i64 0, .int .i64 0, .slice none 0 0, .bool false, .int .i64 0] 46 (0,0)):=by rw [hw7,hq11];exact heap_alloc_new w6 _
  have Qo2:=zz (And.intro hw7 hq11);have Qim:=zz (Q2o.no Q7q);have Qsa:=zz (Q7q.get Qxi.out λx=>x);have Ql4: ¬H1 q11:=λhh=>by have:=hH1 _ hh;have:=Q2o.kp.size;have:=Ap.out.kp.size;have:=Qtp.out.2;omega
  have Je0:=zz Ql4;have RR:=zz (show ∀W,Kp H1 w7 W->W.rangeAt q11 0 [.int .i64 0, .int .i64 (sq+1), .string ⟨#[107]⟩, .int .i64 (sm+1), .int .i64 0, .int .i64 0, .slice none 0 0, .bool false, .int .i64 0] from λW hW=>by have:=Qg (hW.get b11 Ql4) 0 9;exact this);have Qqo:=Q7 b11;have l7:=Q7 Qim.out.cell;have a1: ∀W,Kp H1 w7 W->W.cell? ⟨p,1,none⟩=some (.pointer (some ⟨s,0,none⟩)):=λW hW=>(hW.cell (p:=⟨p,1,none⟩) l7 Qim.out.p1).trans (Qim.out.at_ zK 1);clear hk6 hH1 b6 Q2o hw7 hq11 Q7q b11 Ql4 c0 Qte Ja6;go_upto_region 9 with (refine Qy rfl 46 _ _ rfl _ (by rfl) _ _ _ rfl rfl (by kernel_rfl) (by rfl) (by rfl) ?_)
  rw [<-Qo2.out.1,<-Qo2.out.2];clear e0 l10;refine zD H1 [0,0,0,0,0,2,2,0] [0,1,2,3,4,5,6,7] ?_;repeat (first|refine zA ?_|refine zB ?_|refine zC ?_)
  (try (apply Qb rfl rfl rfl;(focus (intro W hW;exact Qc 46 _ rfl q11 0 rfl _ _ (RR.out W hW) Tryz.underlying46 rfl (by kernel_rfl)));(focus (go_simp;rfl))))
  repeat (first|refine zA ?_|refine zB ?_|refine zC ?_)
  refine Q8 rfl rfl (λn1=>?_);go_wp2_with fail
  obtain ⟨w8,hw8⟩: ∃W,W=(w7.drewN n1).alloc (.cells #[.int .i64 0, .int .i64 (sq+1), .string ⟨#[107]⟩, .int .i64 (sm+1), .int .i64 0, .int .i64 0, .slice none 0 0, .bool false, .int .i64 0] 46):=⟨_,rfl⟩;obtain ⟨sb,hsb⟩: ∃b,b=w7.heap.size:=⟨_,rfl⟩;have J8z:Kp No w7 w8:=by rw [hw8];exact ((Kp.refl No w7).drewN n1).alloc _
  have b8:w8.heap[sb]?=some (.cells #[.int .i64 0, .int .i64 (sq+1), .string ⟨#[107]⟩, .int .i64 (sm+1), .int .i64 0, .int .i64 0, .slice none 0 0, .bool false, .int .i64 0] 46 (0,0)):=by
   rw [hw8,hsb];exact heap_alloc_new (w7.drewN n1) _
  rw [<-hw8,<-hsb];refine ⟨Kp.Qx J8z,?_⟩;have Gc:=zz (And.intro b8 (And.intro J8z hsb));clear hw8 hsb b8 J8z;repeat (first|refine zA ?_|refine zB ?_|refine zC ?_)
  refine Q8 rfl rfl (λn2=>?_);obtain ⟨w9,Mc⟩: ∃W,W=World.drewN w8 n2:=⟨_,rfl⟩;have Qlk:Kp No w8 w9:=by rw [Mc];exact (Kp.refl No w8).drewN n2
  have b9:=Qlk.get Gc.out.1 λx=>x;have hsn: ¬H1 sb:=λhh=>by have:=Qim.out.prog.lt _ hh;have:=Gc.out.2.2;omega
  have hlr:E3 st=⟨0,sq+1,⟨#[107]⟩,⟨sm+1,0,0,[],false,0⟩⟩:=by
   unfold E3;rw [Jao.out.1,Jao.out.2];rfl
  have hdp:=Qjr K7.out.2 (by omega) K7.out.1.mark (f:=fu.toNat) (by omega)
  have hfs:Qpp ds fu={ds with Jo:=some fu.toNat}:=by
   unfold Qpp;rw [if_pos hf0]
  have hpp:=Qim.out.no (Gc.out.2.1.Q0 Qlk)
  have hput:=hpp.put (k:=n) K7.out.1.inv (Qfy K7.out.1.hold fu).fit (by omega) (Dd.out.keep (J9.out.Q0 hpp.kp)) (Nat.lt_of_lt_of_le Dd.out.lt J9.out.size) (by rw [K7.out.1.Zc];exact Qn2) (by have:=K7.out.1.hold.n;omega) (some ⟨sb,0,none⟩) 1 [⟨E3 st,none,0⟩] (λW hW=>⟨λ_=>⟨sb,0,rfl,hW.lt (Q7 b9),le_refl _,λj u hu=>by
    rw [Nat.zero_add,Q4 (hW.get b9 hsn)];rw [hlr] at hu;have hu2:(#[.int .i64 0, .int .i64 (sq+1), .string ⟨#[107]⟩, .int .i64 (sm+1), .int .i64 0, .int .i64 0, .slice none 0 0, .bool false, .int .i64 0]:Array Value).toList[j]?=some u:=hu;rwa [Array.getElem?_toList] at hu2⟩,λy hy=>by
    rw [List.mem_singleton.1 hy];exact ⟨Rd.nil _ _ _,le_refl _,Nat.zero_le _⟩⟩) (le_refl _) (show (1:Nat)<=1000000 by decide) (by omega) (by rw [Ip])
  have Q3g:Calls Tryz.prog 18 #[.pointer (some ⟨s,0,none⟩), .slice (some ⟨sb,0,none⟩) 1 1] w9 λe w'=>e= .returned (.int .i64 9)/\ ∃Hu ds1 Jcr,Qt w2 w' p d s r x Kv 0 {st with dead:=true} ds1 Jcr st ds lg (128*n+64) Hu H2/\Kp H1 w9 w':=by
   refine hput.mono ?_;rintro e w' ⟨he,Hu,hP',_,hk'⟩;rw [hfs] at he hP';have e1:(J8 Kv 0 {ds with Jo:=some fu.toNat} st lg [E3 st]).1=9:=hdp.1;have e2:(J8 Kv 0 {ds with Jo:=some fu.toNat} st lg [E3 st]).2.2.1={st with dead:=true}:=hdp.2;have he':e= .returned (.int .i64 (J8 Kv 0 {ds with Jo:=some fu.toNat} st lg [E3 st]).1):=he;rw [e1] at he';have hP2:Qt w2 w' p d s r x Kv 0 (J8 Kv 0 {ds with Jo:=some fu.toNat} st lg [E3 st]).2.2.1 (J8 Kv 0 {ds with Jo:=some fu.toNat} st lg [E3 st]).2.1 (J8 Kv 0 {ds with Jo:=some fu.toNat} st lg [E3 st]).2.2.2 st ds lg (128*n+64) Hu H2:=hP';rw [e2] at hP2;exact ⟨he',Hu,_,_,hP2,hk'⟩
  have Q4a:=zz Q3g;have J5l:=zz (Gc.out.2.1.Q0 Qlk);rw [<-Mc];clear Mc Qlk b9 hsn hlr hdp hfs hpp hput Q3g Gc;go_wp2_with fail
  refine Q4a.out.mono ?_;rintro e wa ⟨rfl,Hu,ds1,Jcr,Jbq,hka⟩;have J79:Kp H1 w7 wa:=(Kp.Qx J5l.out).Q0 hka;have Je3:=zz Jbq;have D6:=zz J79;clear Jbq hka Q4a;go_wp2_with fail
  (try refine ⟨J79,?_⟩)
  clear J79;repeat (first|refine zA ?_|refine zB ?_|refine zC ?_)
  refine Qa (λnq=>?_);obtain ⟨wb,hwb⟩: ∃W,W=wa.drewN nq:=⟨_,rfl⟩;have Qwe:Kp No wa wb:=by rw [hwb];exact (Kp.refl No wa).drewN nq
  have hSb:Kp H1 w7 wb:=D6.out.Qr Qwe;have Jah:=zz (Je3.out.no Qwe);have RB:=zz (show ∀W,Kp No wb W->W.rangeAt q11 0 [.int .i64 0, .int .i64 (sq+1), .string ⟨#[107]⟩, .int .i64 (sm+1), .int .i64 0, .int .i64 0, .slice none 0 0, .bool false, .int .i64 0] from λW hW=>RR.out W (hSb.Qr hW));have Qzk:=zz (hSb.get Qsa.out λhh=>by have:=Ap.out.new.2.1 _ hh;have:=Gg.out;omega);have Jhn:=hSb.lt Qqo;have Jhm:=hSb.lt l7;have b1: ∀W,Kp No wb W->W.cell? ⟨p,1,none⟩=some (.pointer (some ⟨s,0,none⟩)):=λW hW=>a1 W (hSb.Qr hW);rw [<-hwb];clear hwb Qwe hSb a1 Qqo l7 RR;go_upto_region 10 with fail
  refine zD No [0,0,0,0,0,2,2,0] [0,1,2,3,4,5,6,7] ?_;repeat (first|refine zA ?_|refine zB ?_|refine zC ?_)
  (try (apply Qb rfl rfl rfl;(focus (intro W hW;exact Qc 46 _ rfl q11 0 rfl _ _ (RB.out W hW) Tryz.underlying46 rfl (by kernel_rfl)));(focus (go_simp;rfl))))
  repeat (first|refine zA ?_|refine zB ?_|refine zC ?_)
  refine Q8 rfl rfl (λn1=>?_);go_wp2_with fail
  obtain ⟨wc,hwc⟩: ∃W,W=(wb.drewN n1).alloc (.cells #[.int .i64 0, .int .i64 (sq+1), .string ⟨#[107]⟩, .int .i64 (sm+1), .int .i64 0, .int .i64 0, .slice none 0 0, .bool false, .int .i64 0] 46):=⟨_,rfl⟩;have Qxz:Kp No wb wc:=by rw [hwc];exact ((Kp.refl No wb).drewN n1).alloc _
  rw [<-hwc];refine ⟨Qxz,?_⟩;have Q2i:=zz Qxz;clear hwc Qxz;repeat (first|refine zA ?_|refine zB ?_|refine zC ?_)
  refine Q8 rfl rfl (λn2=>?_);obtain ⟨wd,hwd⟩: ∃W,W=World.drewN wc n2:=⟨_,rfl⟩;have D3:=zz (show Kp No wb wd from by rw [hwd];exact Q2i.out.drewN n2);have Q4a:=zz (((Jah.out.no D3.out).dead rfl).1);rw [<-hwd];clear hwd;go_wp2_with fail
  refine (Q4a.out _ _ _).mono ?_;rintro e we ⟨rfl,ke⟩;have hke:Kp No wb we:=D3.out.Q0 ke;have Hx:=zz hke;clear ke Q4a;go_wp2_with fail
  (try refine ⟨hke,?_⟩)
  clear hke;repeat (first|refine zA ?_|refine zB ?_|refine zC ?_)
  refine Qa (λnq=>?_);obtain ⟨wf,hwf⟩: ∃W,W=we.drewN nq:=⟨_,rfl⟩;have Qd2:=zz (show Kp No wb wf from by rw [hwf];exact Hx.out.drewN nq);have J40:=zz (Jah.out.no Qd2.out);have Jef:=zz (Qd2.out.get Qzk.out λx=>x);have f1:wf.cell? ⟨p,1,none⟩=some (.pointer (some ⟨s,0,none⟩)):=J40.out.at_ zK 1;have lf:=Q7 J40.out.cell;have Qzl:=zz ((J40.out.dead rfl).2.1 1 0);simp only [Xl] at Qzl;rw [<-hwf];clear hwf b1 Jhn Jhm;go_wp2_with fail
  refine Qzl.out.mono ?_;rintro e wg ⟨rfl,kg⟩;have J41:=zz (J40.out.no kg);have Jeg:=zz (kg.get Jef.out λx=>x);have g1:wg.cell? ⟨p,1,none⟩=some (.pointer (some ⟨s,0,none⟩)):=J41.out.at_ zK 1;have J9d:=Q7 J41.out.cell;have Ja2:=zz (J41.out.dead rfl).2.2;clear kg f1 lf Qzl;go_wp2_with fail
  refine Ja2.out.mono ?_;rintro e wh ⟨rfl,kh⟩;have Jaj:=zz (J41.out.no kh);have bh:=kh.get Jeg.out λx=>x;have h0:wh.cell? ⟨tb,0,none⟩=some (.int .i64 t1):=Q4 bh 0;have h1:wh.cell? ⟨tb,1,none⟩=some (.int .i64 t2):=Q4 bh 1;have lh:=Q7 bh
  have hmn:Z7 {st with dead:=true}<=1000000000:=by
   show Z7 st<=_
   have:=K7.out.1.many;omega
  have Qub:=zz (Iv Jaj.out (show Y0 {st with dead:=true} st from rfl) (Ic K7.out.1.inv st.Zc st.n true) (by omega) (by show st.keys.length<=_;have:=K7.out.1.keys;omega) hmn t1 t2 ht);simp only [Xl] at Qub;clear kh bh g1 J9d Ja2 hmn;go_wp2_with fail
  refine Qub.out.mono ?_;rintro e wi ⟨rfl,ki⟩;have J3t:=zz ((J9.out.Q0 Jaj.out.kp).Q0 ki);clear ki Qub h0 h1 lh;have U3:=zz (Jv wi (Dd.out.keep J3t.out));go_wp2_with fail
  refine U3.out.mono ?_;rintro e wz ⟨rfl,kz⟩;have Lp:=zz (J3t.out.Q0 kz);clear kz U3;go_wp2_with fail
  go_ret
  exact ⟨rfl,Lp.out⟩
end Go.Proofs.YtgnkmjeoaoongaaGreatDoor
