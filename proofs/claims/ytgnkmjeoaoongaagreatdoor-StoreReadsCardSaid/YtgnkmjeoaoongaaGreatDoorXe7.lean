/-
  SXPutS, SXTrimS, SPair2, SOrderP, SOrder, SRdW.
-/
import Derived.Test.YtgnkmjeoaoongaaGreatDoorXe4
import Derived.Test.YtgnkmjeoaoongaaGreatDoorXe6
set_option maxRecDepth 100000
set_option maxHeartbeats 4000000
namespace Go.Proofs.YtgnkmjeoaoongaaGreatDoor
open Go.RowKit Go.Mer
def Dx (w:World) (s r y:Nat) (P Q:ByteArray) (o:Nat) (la:Option Addr) (lc:Nat) (cs:Z7) (ka:Option Addr) (kc:Nat) (K:List Qa) (F G:Nat->Prop) (B:Nat) (st':J7) (ds':Qu) (X4:J2) (w':World):Prop:=
 ∃la' Q2v cs' I8 M3 K' F' G',G4 w' s r y P Q o st' la' Q2v cs' I8 M3 K' ds' X4 F' G'/\Qv (Jj s la lc cs ka kc K) (Jj s la' Q2v cs' I8 M3 K') w/\Qv F F' w/\Qv G G' w/\Kp (λi=>Jj s la lc cs ka kc K i\/F i\/G i) w w'/\(∀p∈cs',p.2.R.length<=B)/\K'.length<=B/\cs'.length<=B
section
variable {w w':World} {s r y o:Nat} {P Q:ByteArray} {st:J7} {la:Option Addr} {lc:Nat} {cs:Z7} {ka:Option Addr} {kc:Nat} {K:List Qa} {ds:Qu} {lg:J2} {F G:Nat->Prop}
theorem N9.Qha {S:Nat->Prop} (h:N9 w r y Q ds lg F G) (hk:Kp S w w') (hF: ∀k,F k-> ¬S k) (hG: ∀k,G k-> ¬S k):N9 w' r y Q ds lg F G:=⟨h.disk.keep hk hF,h.log.keep hk hG,h.sep⟩
theorem G4.same (h:G4 w s r y P Q o st la lc cs ka kc K ds lg F G) (hk:Kp No w w') {B:Nat} (hc: ∀p∈cs,p.2.R.length<=B) (hK:K.length<=B) (hn:cs.length<=B):Dx w s r y P Q o la lc cs ka kc K F G B st ds lg w':=
 ⟨la,lc,cs,ka,kc,K,F,G,h.Q5 hk,λ_ h=> .inl h,λ_ h=> .inl h,λ_ h=> .inl h,Kp.of_no hk,hc,hK,hn⟩
theorem G4.wrote {w8 w9:World} (h:G4 w s r y P Q o st la lc cs ka kc K ds lg F G) (hk:Kp No w w8) {q:Int×Qu×J2} (hW:Qui w8 s r y P Q o st la lc cs ka kc K F G q w9):
  ∃F' G',G4 w9 s r y P Q o (Ir st q.1) la lc cs ka kc K q.2.1 q.2.2 F' G'/\Qv F F' w/\Qv G G' w/\Kp (λi=>Jj s la lc cs ka kc K i\/F i\/G i) w w9:=by
 obtain ⟨F',G',h1,h2,hF,hG,hk9⟩:=hW;have h8:=hk.size;have hlt:=h.st.lt;refine ⟨F',G',⟨h1,h2,λi hi hf=>?_,λi hi hf=>?_⟩,λi hi=>?_,λi hi=>?_,(Kp.of_no hk).trans hk9 λi _ hi=>?_⟩
 ·rcases hF i hf with h3|h3
  ·exact h.sF i hi h3
  ·have:=hlt i hi;omega
 ·rcases hG i hf with h3|h3
  ·exact h.sG i hi h3
  ·have:=hlt i hi;omega
 ·exact (hF i hi).imp id λh3=>by omega
 ·exact (hG i hi).imp id λh3=>by omega
 ·rcases hi with hi|hi
  ·exact .inl (.inl hi)
  ·exact .inr hi
theorem Di.lt' (h:N9 w r y Q ds lg F G):(∀k,F k->k<w.heap.size)/\ ∀k,G k->k<w.heap.size:=by
 refine ⟨h.disk.lt,?_⟩;obtain ⟨sv,ev,E,hC,hE,Bd,Ub⟩:=h.log;exact Ub
theorem G4.laid {w9 w':World} {F' G':Nat->Prop} {Q8v:J7} {ds':Qu} {X4:J2} (h:G4 w9 s r y P Q o Q8v la lc cs ka kc K ds' X4 F' G') (hF:Qv F F' w) (hG:Qv G G' w) (hk:Kp (λi=>Jj s la lc cs ka kc K i\/F i\/G i) w w9) {L:List Qx} {B n:Nat} (hn:n<=64) (hJ:Qb6 w9 s r y P o Q8v la lc cs ka kc K L B n w'):
  Dx w s r y P Q o la lc cs ka kc K F G (B+64) (Jf o Q8v (L.take n)) ds' X4 w':=by
 obtain ⟨la',Q2v,cs',I8,M3,K',h1,h2,h3,h4,h5,h6'⟩:=hJ;obtain ⟨Kb,Ub⟩:=Di.lt' h.at_;have hsz:=hk.size;refine ⟨la',Q2v,cs',I8,M3,K',F',G',⟨h1,h.at_.Qha h3 (λk hf hs=>h.sF k hs hf) (λk hf hs=>h.sG k hs hf),λi hi hf=>?_,λi hi hf=>?_⟩,λi hi=>(h2 i hi).imp id λh6=>by omega,hF,hG,hk.trans h3 λi hi hs=> .inl hs,λp hp=>by have:=h4 p hp;omega,by omega,by omega⟩
 ·rcases h2 i hi with h6|h6
  ·exact h.sF i h6 hf
  ·have:=Kb i hf;omega
 ·rcases h2 i hi with h6|h6
  ·exact h.sG i h6 hf
  ·have:=Ub i hf;omega
theorem Q9a {k:Nat} (h:G4 w s r y P Q o st la lc cs ka kc K ds lg F G) (hinv:Inv o st) (Be:Q=Zp P st.Xu) (hfit:Fit k Q ds lg) (hwh:st.dead=false->Whole Q ds lg) (hk:k<=3000) (hQ:Q.size<=50) (hnb:st.n<=1000000)
  (a:Option Addr) (cap:Nat) (L:List Qa) (hL: ∀W,Kp (λi=>Jj s la lc cs ka kc K i\/F i\/G i) w W->V2 W a L) (hc:L.length<=cap) (hcm:L.length<=1000000) (B:Nat) (hB:B<=900000) (hcB: ∀p∈cs,p.2.R.length<=B) (hkB:K.length<=B) (hcn:cs.length<=B):
  Calls Tryz.prog 21 #[.pointer (some ⟨s,0,none⟩), .slice a L.length cap] w λe w'=>e= .returned (.int .i64 (Jd P o ds st lg (L.map Qa.r)).1)/\
   Dx w s r y P Q o la lc cs ka kc K F G (B+64) (Jd P o ds st lg (L.map Qa.r)).2.2.1 (Jd P o ds st lg (L.map Qa.r)).2.1 (Jd P o ds st lg (L.map Qa.r)).2.2.2 w':=by
 obtain ⟨n,U2⟩: ∃n,n=L.length:=⟨_,rfl⟩;obtain ⟨q,hq⟩: ∃q,q=Jd P o ds st lg (L.map Qa.r):=⟨_,rfl⟩;have hsame: ∀W,Kp No w W->Dx w s r y P Q o la lc cs ka kc K F G (B+64) st ds lg W:=λW hW=>h.same hW (λp hp=>by have:=hcB p hp;omega) (by omega) (by omega);have hL0:=hL w zK;have c25:w.cell? ⟨s,25,none⟩=some (.bool st.dead):=h.st.at_ zK 25;have sl:=Q3 h.st.cell;rw [<-hq];unfold Jd at hq;rw [<-U2];by_cases hd:st.dead=true
 ·rw [if_pos hd] at hq;rw [hd] at c25;have HS:=zz hsame;subst hq;clear h hinv hfit hwh hL hsame hcB hkB hcn hd U2 hL0 Be;go_enter Tryz.func21,Tryz.ntmps21
  go_wp2_with fail
  go_ret
  exact ⟨rfl,HS.out _ zK⟩
 have hd':st.dead=false:=by simpa using hd
 rw [if_neg hd] at hq;rw [hd'] at c25;rw [List.length_map,<-U2] at hq;have hmay:=Qiu h.st hinv.J64 a cap L hL0 hc hcm;rw [<-U2] at hmay;obtain ⟨my,Qdx⟩: ∃my,my=Fk st (L.map Qa.r):=⟨_,rfl⟩;rw [<-Qdx] at hmay hq;by_cases hn0:n=0
 ·rw [if_pos hn0] at hq
  have hm0:my=0:=by
   have hLn:L=[]:=by rw [<-List.length_eq_zero_iff,<-U2];exact hn0
   rw [Qdx,hLn];rfl
  have HS:=zz hsame;have HM:=zz hmay;have z1:((my:Int)==0)=true:=by rw [hm0];rfl
  have z2:(my==0)=true:=by rw [hm0];rfl
  have z3:((my:Int) !=0)=false:=by rw [bne,z1];rfl
  have z4:(my !=0)=false:=by rw [bne,z2];rfl
  have z5:((n:Int)==0)=true:=by rw [hn0];rfl
  have z6:(n==0)=true:=by rw [hn0];rfl
  have Qjw:=zz hm0;subst hq;clear h hinv hfit hwh hL hsame hcB hkB hcn hd hd' U2 hL0 Be hmay Qdx hm0 hn0;go_enter Tryz.func21,Tryz.ntmps21
  go_wp2_with fail
  refine HM.out.mono ?_;rintro e w2 ⟨rfl,k2⟩;have Qz:=zz k2;clear k2;go_wp2_with fail
  go_ret
  exact ⟨by rw [Qjw.out];rfl,HS.out _ Qz.out⟩
 rw [if_neg hn0] at hq;have hn1:((n:Int)==0)=false:=by rw [beq_eq_false_iff_ne];omega
 have hn1':(n==0)=false:=by rw [beq_eq_false_iff_ne];exact hn0
 by_cases hm0:my=0
 ·rw [if_pos hm0] at hq;have z1:((my:Int)==0)=true:=by rw [hm0];rfl
  have z2:(my==0)=true:=by rw [hm0];rfl
  have z3:((my:Int) !=0)=false:=by rw [bne,z1];rfl
  have z4:(my !=0)=false:=by rw [bne,z2];rfl
  obtain ⟨h64,hall,hg⟩:=Q5l (Qdx.symm.trans hm0);have E7: ∀x∈L,Jv x.r=true:=λx hx=>hall _ (List.mem_map.2 ⟨x,hx,rfl⟩);have hlen:=Mr hall (by rw [List.length_map];rwa [List.length_map] at h64);rw [List.length_map] at h64
  have Qqv: ∀W,Kp No w W->Calls Tryz.prog 67 #[.slice a n cap] W (Q73 W (Eu (L.map Qa.r))):=λW hW=>by
   rw [U2];exact Qdj W a cap L (hL0.kp hW) E7 h64
  obtain ⟨ll,hll⟩: ∃ll,ll=Eu (L.map Qa.r):=⟨_,rfl⟩;rw [<-hll] at Qqv hlen;obtain ⟨X,hX⟩: ∃X,X=Ql 1++ll:=⟨_,rfl⟩;obtain ⟨wq,hwq⟩: ∃wq,wq=Jw Q ds lg X:=⟨_,rfl⟩
  have hq':q=if wq.1=0 then (0,wq.2.1,{Jf o st (L.map Qa.r) with n:=st.n+1},wq.2.2) else (wq.1,wq.2.1,{st with dead:=true},wq.2.2):=by
   rw [hq,<-Be,hwq,hX,hll];rfl
  have HM:=zz hmay;have Qp3:=zz Qqv;have HH:=zz h;have HI:=zz hinv;have Qj8:=zz hL;have Qj5:=zz (And.intro hfit (hwh hd'));have Vj:=zz (And.intro hcB (And.intro hkB hcn));have Qph:=zz hwq;have HQ:=zz hq';have HG:=zz (And.intro hall (And.intro E7 hg));have HN:=zz U2;have HX:=zz hX;clear hX h hinv hfit hwh hL hsame hcB hkB hcn hd hd' hL0 Be hmay Qdx hq Qqv hll hwq hq' hall E7 hg U2 hm0;go_enter Tryz.func21,Tryz.ntmps21
  go_wp2_with fail
  refine HM.out.mono ?_;rintro e w2 ⟨rfl,k2⟩;have Qz:=zz k2;have HL2:=zz (Qp3.out w2 k2);clear k2 Qp3 HM;go_wp2_with fail
  refine HL2.out.mono ?_;rintro e w3 ⟨a3,c3,rfl,hown3,hfr3,k3⟩;have Qtl:=zz hown3;have Zj:=zz (Qz.out.trans_same k3);have Qjx:=zz (Kf 1 (by decide) w3);obtain ⟨ln,hln⟩: ∃l,l=ll.length:=⟨_,rfl⟩;have E4:=zz (And.intro hln hlen);rw [<-hln];clear hown3 hfr3 k3 HL2 hln hlen c25 sl;go_wp2_with fail
  refine Qjx.out.mono ?_;rintro e w4 ⟨a4,c4,rfl,hown4,Qvl,k4⟩;have Qla:(Ql 1).length<=9:=Qm (n:=1) (by decide);obtain ⟨a5,c5,w5,h1,h2,h3,h4⟩:=Zq w3 w4 (.slice a4 (Ql 1).length c4) (Ql 1) ll hown4 Qvl k4 a3 c3 (Rd.kp (Own.rd' Qtl.out) k4) (by have:=E4.out.2;omega);rw [<-HX.out] at h1 h2 h3;rw [<-E4.out.1] at h1
  have Qg2:X.length<=1000000:=by
   rw [HX.out,List.length_append];have:=E4.out.2;omega
  obtain ⟨l1,hl1⟩: ∃l,l=(Ql 1).length:=⟨_,rfl⟩;rw [<-hl1] at h1⊢;have Qtv:=zz h1;have J2b:=Zj.out.trans_same h4;have h5:=HH.out.Q5 J2b;obtain ⟨Kb,Ub⟩:=Di.lt' HH.out.at_
  have hwr:=N5 h5.st h5.at_ h5.sF h5.sG Qj5.out.1 Qj5.out.2 hk hQ hnb a5 c5 X (λW hW=>Own.rd' (h2.keep hW λg hg hb=>by
   have e1:=h3 g hg;have e2:=Zj.out.size;rcases hb with hb|hb
   ·have:=Kb g hb;omega
   ·have:=Ub g hb;omega)) (by omega)
  rw [<-Qph.out] at hwr;have Ff:=zz hwr;have Ga:=zz J2b;have hd25:=h5.st.at_ zK 25;have hl5:=Q3 h5.st.cell;obtain ⟨lX,J5g⟩: ∃l,l=X.length:=⟨_,rfl⟩;rw [<-J5g] at Qtv Ff;clear hwr h5 J2b hown4 Qvl k4 Qla h1 h2 h3 h4 Qg2 hl1 Kb Ub Zj Qtl J5g hd25 hl5 Qjx;obtain ⟨Iq,Xc⟩: ∃z,z=wq.1:=⟨_,rfl⟩;rw [<-Xc] at Ff;by_cases hw0:Iq=0
  ·have b1:(Iq==0)=true:=by rw [beq_iff_eq];exact hw0
   have b2:(Iq !=0)=false:=by rw [bne,b1];rfl
   have Bj:q=(0,wq.2.1,{Jf o st (L.map Qa.r) with n:=st.n+1},wq.2.2):=by rw [HQ.out,if_pos (by rw [<-Xc];exact hw0)]
   have Q7b:=zz Bj;have HW0:=zz (show wq.1=0 by rw [<-Xc];exact hw0);have HW1:=zz hw0;clear Bj Xc hw0;go_wp2_with (at_builtin;refine wpList_append_run rfl rfl rfl rfl Qtv.out ?_;clear Qtv)
   refine Ff.out.mono ?_;rintro e w9 ⟨rfl,Kz⟩;obtain ⟨F',G',h9,I4,Bc,hk9⟩:=HH.out.wrote Ga.out Kz;rw [Gv st HW0.out] at h9;have hla:=Q6o h9.st (HI.out.Q39 _) a cap L (λW hW=>Qj8.out W (hk9.trans hW λi _ hs=> .inl hs)) hc HG.out.1 HG.out.2.2 h64 B hB Vj.out.1 Vj.out.2.1 Vj.out.2.2;have H9:=zz h9;have Q78:=zz (And.intro I4 (And.intro Bc hk9));rw [<-HN.out] at hla;have Qte:=zz hla;clear h9 I4 Bc hk9 hla Kz Ff;go_wp2_with fail
   refine Qte.out.mono ?_;rintro e wa ⟨rfl,hJ⟩;have hT:=H9.out.laid Q78.out.1 Q78.out.2.1 Q78.out.2.2 (by rw [HN.out];exact h64) hJ;have htk:(L.map Qa.r).take n=L.map Qa.r:=List.take_of_length_le (by rw [List.length_map,HN.out];exact Nat.le_refl _);rw [htk,Q2u] at hT;have HT:=zz hT;clear hT htk hJ Qte;go_wp2_with fail
   go_ret
   rw [Q7b.out];exact ⟨by rw [HW1.out];rfl,HT.out⟩
  ·have b1:(Iq==0)=false:=by rw [beq_eq_false_iff_ne];exact hw0
   have b2:(Iq !=0)=true:=by rw [bne,b1];rfl
   have Bj:q=(Iq,wq.2.1,{st with dead:=true},wq.2.2):=by rw [HQ.out,if_neg (by rw [<-Xc];exact hw0),Xc]
   have Q7b:=zz Bj;have HW0:=zz (show wq.1≠0 by rw [<-Xc];exact hw0);clear Bj Xc hw0;go_wp2_with (at_builtin;refine wpList_append_run rfl rfl rfl rfl Qtv.out ?_;clear Qtv)
   refine Ff.out.mono ?_;rintro e w9 ⟨rfl,Kz⟩;obtain ⟨F',G',h9,I4,Bc,hk9⟩:=HH.out.wrote Ga.out Kz;rw [Us st HW0.out] at h9;have HT:=zz (show Dx w s r y P Q o la lc cs ka kc K F G (B+64) {st with dead:=true} wq.2.1 wq.2.2 w9 from ⟨la,lc,cs,ka,kc,K,F',G',h9,λ_ h=> .inl h,I4,Bc,hk9,λp hp=>by have:=Vj.out.1 p hp;omega,by have:=Vj.out.2.1;omega,by have:=Vj.out.2.2;omega⟩);clear h9 I4 Bc hk9 Kz Ff;go_wp2_with fail
   go_ret
   rw [Q7b.out];exact ⟨rfl,HT.out⟩
 ·rw [if_neg hm0] at hq;have HS:=zz hsame;have HM:=zz hmay;have hm1:((my:Int)==0)=false:=by rw [beq_eq_false_iff_ne];omega
  have hm2:((my:Int) !=0)=true:=by rw [bne,hm1];rfl
  have Qqy:(my==0)=false:=by rw [beq_eq_false_iff_ne];exact hm0
  have hm4:(my !=0)=true:=by rw [bne,Qqy];rfl
  have Qqz: ¬((my:Int)=0):=by omega
  subst hq;clear h hinv hfit hwh hL hsame hcB hkB hcn hd hd' U2 hL0 Be hmay Qdx;go_enter Tryz.func21,Tryz.ntmps21
  go_wp2_with fail
  refine HM.out.mono ?_;rintro e w2 ⟨rfl,k2⟩;have Qz:=zz k2;clear k2;go_wp2_with fail
  go_ret
  exact ⟨rfl,HS.out _ Qz.out⟩
end
section
variable {w w':World} {s r y o:Nat} {P Q:ByteArray} {st:J7} {la:Option Addr} {lc:Nat} {cs:Z7} {ka:Option Addr} {kc:Nat} {K:List Qa} {ds:Qu} {lg:J2} {F G:Nat->Prop}
theorem G4.trimmed {w9 w':World} {F' G':Nat->Prop} {Q8v:J7} {ds':Qu} {X4:J2} {t1 t2:Int} {B:Nat} (h:G4 w9 s r y P Q o Q8v la lc cs ka kc K ds' X4 F' G') (hF:Qv F F' w) (hG:Qv G G' w) (hk:Kp (λi=>Jj s la lc cs ka kc K i\/F i\/G i) w w9) (hkB:K.length<=B) (hcn:cs.length<=B)
  {la':Option Addr} {Q2v:Nat} {cs':Z7} (h1:Xx w' s r y P o (Fc Q8v t1 t2) la' Q2v cs' ka kc K) (h2: ∀g,Jj s la' Q2v cs' ka kc K g->Jj s la lc cs ka kc K g\/w9.heap.size<=g) (h3:Kp (Jj s la lc cs ka kc K) w9 w') (h4: ∀p∈cs',p.2.R.length<=B) (h5:cs'.length<=cs.length):
  Dx w s r y P Q o la lc cs ka kc K F G B (Fc Q8v t1 t2) ds' X4 w':=by
 obtain ⟨Kb,Ub⟩:=Di.lt' h.at_;have hsz:=hk.size;refine ⟨la',Q2v,cs',ka,kc,K,F',G',⟨h1,h.at_.Qha h3 (λk hf hs=>h.sF k hs hf) (λk hf hs=>h.sG k hs hf),λi hi hf=>?_,λi hi hf=>?_⟩,λi hi=>(h2 i hi).imp id λh6=>by omega,hF,hG,hk.trans h3 λi hi hs=> .inl hs,h4,hkB,by omega⟩
 ·rcases h2 i hi with h6|h6
  ·exact h.sF i h6 hf
  ·have:=Kb i hf;omega
 ·rcases h2 i hi with h6|h6
  ·exact h.sG i h6 hf
  ·have:=Ub i hf;omega
theorem Q6q {k:Nat} (h:G4 w s r y P Q o st la lc cs ka kc K ds lg F G) (hinv:Inv o st) (Be:Q=Zp P st.Xu) (hfit:Fit k Q ds lg) (hwh:st.dead=false->Whole Q ds lg) (hk:k<=3000) (hQ:Q.size<=50) (hnb:st.n<=1000000)
  (t1 t2:Int) (B:Nat) (hB:B<=900000) (hcB: ∀p∈cs,p.2.R.length<=B) (hkB:K.length<=B) (hcn:cs.length<=B) (hm:Zy st<=1000000000):
  Calls Tryz.prog 24 #[.pointer (some ⟨s,0,none⟩),Xo t1 t2] w λe w'=>e= .returned (.tuple #[.int .i64 ((J9 P ds st lg t1 t2).1.1:Int), .int .i64 (J9 P ds st lg t1 t2).1.2])/\
   Dx w s r y P Q o la lc cs ka kc K F G B (J9 P ds st lg t1 t2).2.2.1 (J9 P ds st lg t1 t2).2.1 (J9 P ds st lg t1 t2).2.2.2 w':=by
 obtain ⟨q,hq⟩: ∃q,q=J9 P ds st lg t1 t2:=⟨_,rfl⟩;obtain ⟨w0,hw0⟩: ∃W,W=w.alloc (.cells #[.int .i64 t1, .int .i64 t2] 25):=⟨_,rfl⟩;obtain ⟨tb,htb⟩: ∃b,b=w.heap.size:=⟨_,rfl⟩;have k0:Kp No w w0:=by rw [hw0];exact zK.alloc _
 have b0:w0.heap[tb]?=some (.cells #[.int .i64 t1, .int .i64 t2] 25 (0,0)):=by rw [hw0,htb];exact heap_alloc_new w _
 have hsame: ∀W,Kp No w W->Dx w s r y P Q o la lc cs ka kc K F G B st ds lg W:=λW hW=>h.same hW hcB hkB hcn;have h0:=h.Q5 k0;have c25:w0.cell? ⟨s,25,none⟩=some (.bool st.dead):=h0.st.at_ zK 25;have sl0:=Q3 h0.st.cell;rw [<-hq];unfold J9 at hq;have HB0:=zz (And.intro k0 b0);have HW0:=zz hw0;have Q7e:=zz htb;simp only [Xo];by_cases hd:st.dead=true
 ·rw [if_pos hd] at hq;rw [hd] at c25;have HS:=zz hsame;subst hq;clear h hinv hfit hwh hsame hcB hkB hcn hd Be hw0 htb k0 b0 h0;go_enter Tryz.func24,Tryz.ntmps24
  go_upto_region 1 with fail
  rw [<-Q7e.out,<-HW0.out];go_wp2_with fail
  go_ret2
  exact ⟨rfl,HS.out _ HB0.out.1⟩
 have hd':st.dead=false:=by simpa using hd
 rw [if_neg hd] at hq;rw [hd'] at c25;have hst:=Vq t1 t2 w0;have d0:w0.cell? ⟨tb,0,none⟩=some (.int .i64 t1):=Q0 b0 0;have d1:w0.cell? ⟨tb,1,none⟩=some (.int .i64 t2):=Q0 b0 1;have Qmt:=Q3 b0;cases hi:Jp t1 t2 with
 |false=>
  rw [if_pos hi] at hq;rw [hi] at hst;have HS:=zz hsame;have HST:=zz hst;subst hq;clear h hinv hfit hwh hsame hcB hkB hcn hd hd' Be hw0 htb k0 b0 h0 hst hi;go_enter Tryz.func24,Tryz.ntmps24
  go_upto_region 1 with fail
  rw [<-Q7e.out,<-HW0.out];go_wp2_with fail
  simp only [Xo] at HST;refine HST.out.mono ?_;rintro e w2 ⟨rfl,k2⟩;have Qz:=zz (HB0.out.1.trans_same k2);clear k2;go_wp2_with fail
  go_ret2
  exact ⟨rfl,HS.out _ Qz.out⟩
 |true=>
  rw [if_neg (by rw [hi];decide)] at hq;rw [hi] at hst;obtain ⟨m1,m2,c1,c2⟩:=Zh.1 hi;obtain ⟨T1,hT1⟩: ∃T:Nat,t1=(T:Int):=⟨t1.toNat,by omega⟩;obtain ⟨T2,hT2⟩: ∃T:Nat,t2=(T:Int):=⟨t2.toNat,by omega⟩;have HST:=zz hst;have HCM:=zz (λW=>Eb t1 t2 st.mm st.mc W);obtain ⟨z,hz⟩: ∃z,z=Js t1 t2 st.mm st.mc:=⟨_,rfl⟩;have Bq:=(Xi t1 t2 st.mm st.mc).2.2;rw [<-hz] at Bq HCM;simp only [Xo] at HST HCM;have HH:=zz h;clear hst hz;by_cases hlt:Z6 st.mm st.mc t1 t2=true
  ·rw [if_pos hlt] at hq;have z1:decide (z<=0)=false:=decide_eq_false (by have:=Bq.2 hlt;omega);obtain ⟨X,hX⟩: ∃X,X=Bu t1 t2:=⟨_,rfl⟩;obtain ⟨wq,hwq⟩: ∃wq,wq=Jw Q ds lg X:=⟨_,rfl⟩
   have hq':q=if wq.1=0 then ((Fb st t1 t2,0),wq.2.1,{Fc st t1 t2 with n:=st.n+1},wq.2.2) else ((0,wq.1),wq.2.1,{st with dead:=true},wq.2.2):=by
    rw [hq,<-Be,hwq,hX]
   have Qg2:X.length<=100:=by
    rw [hX,Bu,Qxh,List.length_append,List.length_append];have a1:=Qm (n:=2) (by decide);have a2:=Qm (n:=t1.toNat) (by omega);have a3:=Qm (n:=t2.toNat) (by omega);omega
   have Qv7:X=[2,T1,T2].flatMap Ql:=by
    rw [hX,Bu,Qxh,hT1,hT2];simp only [List.flatMap_cons,List.flatMap_nil,List.append_nil,Int.toNat_natCast]
   have HI:=zz hinv;have Qj5:=zz (And.intro hfit (hwh hd'));have Vj:=zz (And.intro hcB (And.intro hkB (And.intro hcn hm)));have Qph:=zz hwq;have HQ:=zz hq';have HX:=zz (And.intro Qg2 Qv7);have HT:=zz (And.intro hT1 (And.intro hT2 (And.intro (show T1<=4611686018427387904 by omega) (show T2<=4611686018427387904 by omega))));have HM:=zz (show t1<=9223372036854775807 by omega);clear h hinv hfit hwh hsame hcB hkB hcn hm hd hd' Be hw0 htb k0 h0 hi hq hq' hX hwq Qg2 Qv7 hT1 hT2 hlt Bq m1 m2 c1 c2;go_enter Tryz.func24,Tryz.ntmps24
   go_upto_region 1 with fail
   rw [<-Q7e.out,<-HW0.out];go_wp2_with fail
   refine HST.out.mono ?_;rintro e w2 ⟨rfl,k2⟩;have Qz:=zz k2;have e0: ∀W,Kp No w2 W->W.cell? ⟨tb,0,none⟩=some (.int .i64 t1):=λW hW=>Q0 ((Qz.out.trans_same hW).get HB0.out.2 λx=>x) 0;have e1: ∀W,Kp No w2 W->W.cell? ⟨tb,1,none⟩=some (.int .i64 t2):=λW hW=>Q0 ((Qz.out.trans_same hW).get HB0.out.2 λx=>x) 1;have e8: ∀W,Kp No w2 W->W.cell? ⟨s,6,none⟩=some (.int .i64 st.mm):=λW hW=>HH.out.st.at_ ((HB0.out.1.trans_same Qz.out).trans_same hW) 6;have e9: ∀W,Kp No w2 W->W.cell? ⟨s,7,none⟩=some (.int .i64 st.mc):=λW hW=>HH.out.st.at_ ((HB0.out.1.trans_same Qz.out).trans_same hW) 7;have Qrv:=Qz.out.lt Qmt;have sl2:=Qz.out.lt sl0;clear k2 HST d0 d1 b0 c25;go_wp2_with fail
   refine zD No [0,0,0,0,0,2,0] [0,1,2,3,4,5,6] ?_;repeat (first|refine zA ?_|refine zB ?_|refine zC ?_)
   refine Q4 rfl rfl (λn1=>?_);go_wp2_with fail
   refine (HCM.out _).mono ?_;rintro e wa ⟨rfl,Gl⟩;have ka:Kp No w2 wa:=Gl.of_drewN;clear Gl;go_wp2_with fail
   (try refine ⟨ka,?_⟩)
   repeat (first|refine zA ?_|refine zB ?_|refine zC ?_)
   refine Q6 (λnq=>?_);obtain ⟨w3,hw3⟩: ∃W,W=wa.drewN nq:=⟨_,rfl⟩;have k3:Kp No w0 w3:=by rw [hw3];exact (Qz.out.trans_same ka).drewN nq
   have Zj:=zz (HB0.out.1.trans_same k3);have b3:=k3.get HB0.out.2 λx=>x;rw [<-hw3];obtain ⟨w5,hw5⟩: ∃W,W=w3.alloc (.cells #[.int .i64 2, .int .i64 t1, .int .i64 t2] 3):=⟨_,rfl⟩;obtain ⟨g5,hg5⟩: ∃g,g=w3.heap.size:=⟨_,rfl⟩;have J2c:Kp No w3 w5:=by rw [hw5];exact (Kp.refl No w3).alloc _
   have hnu:=Xm w5 g5 3 [2,T1,T2] 3 (by
    intro n hn;simp only [List.mem_cons,List.not_mem_nil,or_false] at hn;obtain ⟨_,_,h1,h2⟩:=HT.out;rcases hn with rfl|rfl|rfl<;>omega) (by
    rw [hw5,hg5,heap_alloc_new w3 _,HT.out.1,HT.out.2.1];rfl) (by simp)
   rw [<-HX.out.2] at hnu;have f0:w3.cell? ⟨tb,0,none⟩=some (.int .i64 t1):=Q0 b3 0;have f1:w3.cell? ⟨tb,1,none⟩=some (.int .i64 t2):=Q0 b3 1;have J9u:=k3.lt Qmt;have Dt:=zz hnu;have Q0d:=zz (And.intro hw5 hg5);have Ga:=zz (Zj.out.trans_same J2c);have Qz2:=zz (k3.trans_same J2c);clear ka hw3 k3 b3 hw5 hg5 J2c hnu e0 e1 e8 e9 Qrv sl2 HCM Qmt sl0;go_wp2_with fail
   rw [<-Q0d.out.1,<-Q0d.out.2];refine Dt.out.mono ?_;rintro e w8 ⟨a8,c8,rfl,Hh,Q4o,k8⟩;have Qc1:=Ga.out.trans_same k8;have h8:=HH.out.Q5 Qc1;obtain ⟨Kb,Ub⟩:=Di.lt' HH.out.at_;have hxl:=HX.out.1
   have hwr:=N5 h8.st h8.at_ h8.sF h8.sG Qj5.out.1 Qj5.out.2 hk hQ hnb a8 c8 X (λW hW=>Own.rd' (Hh.keep hW λg hg hb=>by
    have h1:=Q4o g hg;have h2:=Ga.out.size;rcases hb with hb|hb
    ·have:=Kb g hb;omega
    ·have:=Ub g hb;omega)) (by omega)
   rw [<-Qph.out] at hwr;have Ff:=zz hwr;have Kx:=zz Qc1;have El:=zz ((Qz2.out.trans_same k8).get HB0.out.2 λx=>x);clear hwr h8 Qc1 k8 Hh Q4o Kb Ub Dt Q0d Ga f0 f1 J9u hxl;obtain ⟨Iq,Xc⟩: ∃z,z=wq.1:=⟨_,rfl⟩;rw [<-Xc] at Ff;by_cases hw0:Iq=0
   ·have b1:(Iq==0)=true:=by rw [beq_iff_eq];exact hw0
    have b2:(Iq !=0)=false:=by rw [bne,b1];rfl
    have Bj:q=((Fb st t1 t2,0),wq.2.1,{Fc st t1 t2 with n:=st.n+1},wq.2.2):=by rw [HQ.out,if_pos (by rw [<-Xc];exact hw0)]
    have Q7b:=zz Bj;have HW0:=zz (show wq.1=0 by rw [<-Xc];exact hw0);clear Bj Xc hw0;go_wp2_with fail
    refine Ff.out.mono ?_;rintro e w9 ⟨rfl,Kz⟩;obtain ⟨F',G',h9,I4,Bc,hk9⟩:=HH.out.wrote Kx.out Kz;rw [Gv st HW0.out] at h9;have htr:=Q9c (t1:=t1) (t2:=t2) h9.st (HI.out.Q39 _) (by omega) Vj.out.1 (by have:=Vj.out.2.2.1;omega) Vj.out.2.2.2 HM.out;have H9:=zz h9;have Q78:=zz (And.intro I4 (And.intro Bc hk9));have Q7g:=zz htr;obtain ⟨_,_,_,_,_,_,hkw⟩:=id Kz;obtain ⟨Kb,Ub⟩:=Di.lt' HH.out.at_;have hsl:=Q3 HH.out.st.cell
    have b9:=hkw.get El.out λhh=>by
     have h1:=Q7e.out;rcases hh with hh|hh|hh
     ·omega
     ·have:=Kb _ hh;omega
     ·have:=Ub _ hh;omega
    have n0:w9.cell? ⟨tb,0,none⟩=some (.int .i64 t1):=Q0 b9 0;have n1:w9.cell? ⟨tb,1,none⟩=some (.int .i64 t2):=Q0 b9 1;have J31:=Q3 b9;clear h9 I4 Bc hk9 htr Kz Ff hkw Kb Ub hsl b9;simp only [Xo] at Q7g;go_wp2_with fail
    refine Q7g.out.mono ?_;rintro e J9y ⟨rfl,la',Q2v,cs',g1,g2,g3,g4,g5⟩;have Qdt:=zz (H9.out.trimmed Q78.out.1 Q78.out.2.1 Q78.out.2.2 Vj.out.2.1 Vj.out.2.2.1 g1 g2 g3 g4 g5);clear g1 g2 g3 g4 g5 Q7g n0 n1 J31;go_wp2_with fail
    go_ret2
    rw [Q7b.out];exact ⟨rfl,Qdt.out⟩
   ·have b1:(Iq==0)=false:=by rw [beq_eq_false_iff_ne];exact hw0
    have b2:(Iq !=0)=true:=by rw [bne,b1];rfl
    have Bj:q=((0,Iq),wq.2.1,{st with dead:=true},wq.2.2):=by rw [HQ.out,if_neg (by rw [<-Xc];exact hw0),Xc]
    have Q7b:=zz Bj;have HW0:=zz (show wq.1≠0 by rw [<-Xc];exact hw0);clear Bj Xc hw0;go_wp2_with fail
    refine Ff.out.mono ?_;rintro e w9 ⟨rfl,Kz⟩;obtain ⟨F',G',h9,I4,Bc,hk9⟩:=HH.out.wrote Kx.out Kz;rw [Us st HW0.out] at h9;have Qdt:=zz (show Dx w s r y P Q o la lc cs ka kc K F G B {st with dead:=true} wq.2.1 wq.2.2 w9 from ⟨la,lc,cs,ka,kc,K,F',G',h9,λ_ h=> .inl h,I4,Bc,hk9,Vj.out.1,Vj.out.2.1,Vj.out.2.2.1⟩);clear h9 I4 Bc hk9 Kz Ff;go_wp2_with fail
    go_ret2
    rw [Q7b.out];exact ⟨rfl,Qdt.out⟩
  ·rw [if_neg hlt] at hq
   have z1:decide (z<=0)=true:=decide_eq_true (by
    rcases Int.lt_or_le 0 z with h1|h1
    ·exact absurd (Bq.1 h1) hlt
    ·exact h1)
   have HS:=zz hsame;subst hq;clear h hinv hfit hwh hsame hcB hkB hcn hm hd hd' Be hw0 htb k0 h0 hi hT1 hT2 hlt Bq m1 m2 c1 c2;go_enter Tryz.func24,Tryz.ntmps24
   go_upto_region 1 with fail
   rw [<-Q7e.out,<-HW0.out];go_wp2_with fail
   refine HST.out.mono ?_;rintro e w2 ⟨rfl,k2⟩;have Qz:=zz k2;have e0: ∀W,Kp No w2 W->W.cell? ⟨tb,0,none⟩=some (.int .i64 t1):=λW hW=>Q0 ((Qz.out.trans_same hW).get HB0.out.2 λx=>x) 0;have e1: ∀W,Kp No w2 W->W.cell? ⟨tb,1,none⟩=some (.int .i64 t2):=λW hW=>Q0 ((Qz.out.trans_same hW).get HB0.out.2 λx=>x) 1;have e8: ∀W,Kp No w2 W->W.cell? ⟨s,6,none⟩=some (.int .i64 st.mm):=λW hW=>HH.out.st.at_ ((HB0.out.1.trans_same Qz.out).trans_same hW) 6;have e9: ∀W,Kp No w2 W->W.cell? ⟨s,7,none⟩=some (.int .i64 st.mc):=λW hW=>HH.out.st.at_ ((HB0.out.1.trans_same Qz.out).trans_same hW) 7;have Qrv:=Qz.out.lt Qmt;have sl2:=Qz.out.lt sl0;clear k2 HST d0 d1 b0 c25;go_wp2_with fail
   refine zD No [0,0,0,0,0,2,0] [0,1,2,3,4,5,6] ?_;repeat (first|refine zA ?_|refine zB ?_|refine zC ?_)
   refine Q4 rfl rfl (λn1=>?_);go_wp2_with fail
   refine (HCM.out _).mono ?_;rintro e wa ⟨rfl,Gl⟩;have ka:Kp No w2 wa:=Gl.of_drewN;clear Gl;go_wp2_with fail
   (try refine ⟨ka,?_⟩)
   repeat (first|refine zA ?_|refine zB ?_|refine zC ?_)
   refine Q6 (λnq=>?_);have Zj:=zz ((HB0.out.1.trans_same Qz.out).trans_same (ka.drewN nq));clear ka;go_wp2_with fail
   go_ret2
   exact ⟨rfl,HS.out _ Zj.out⟩
end
section
variable {w0 w w':World} {p d s r x o B:Nat} {P:ByteArray} {st st' st2:J7} {ds ds' ds2:Qu} {lg X4 Qhg:J2} {H1 H2:Nat->Prop}
theorem Qk7.more {w:World} {x r o B B':Nat} {P:ByteArray} {st:J7} {ds:Qu} {lg:J2} {H:Nat->Prop} (h:Qk7 w x r P o st ds lg B H) (hB:B<=B'):Qk7 w x r P o st ds lg B' H:=by
 obtain ⟨y,la,lc,cs,ka,kc,K,F,G,h1,h2,h3,h4,h5⟩:=h;exact ⟨y,la,lc,cs,ka,kc,K,F,G,h1,λp hp=>Nat.le_trans (h2 p hp) hB,Nat.le_trans h3 hB,h4,h5⟩
theorem Qk6.more {w:World} {s d o B B':Nat} {P:ByteArray} {st:J7} {ds:Qu} {lg:J2} {H:Nat->Prop} (h:Qk6 w s d P o st ds lg B H) (hB:B<=B'):Qk6 w s d P o st ds lg B' H:=by
 obtain ⟨l,m,cs,ka,kc,K,F,G,h1,h2,h3,h4,h5⟩:=h;exact ⟨l,m,cs,ka,kc,K,F,G,h1,λp hp=>Nat.le_trans (h2 p hp) hB,Nat.le_trans h3 hB,h4,h5⟩
theorem Jm.J9j {l m:Nat} {cs:Z7} {ka:Option Addr} {kc:Nat} {K:List Qa} {F G:Nat->Prop} {B':Nat} (h:Jm w0 w p d s r x P o st ds lg st' ds' X4 B H1 H2) (h4: ∀k,X6 s m cs ka kc K k\/F k\/G k->H1 k) (hT:Dw w s d l P (Zp P st.Xu) o m cs ka kc K F G B' st2 ds2 Qhg w') (C1:st2.Xu=st.Xu) (hB:B<=B'):
  ∃Q0p,Jm w0 w' p d s r x P o st2 ds2 Qhg st' ds' X4 B' Q0p H2/\Qv H1 Q0p w/\Kp H1 w w':=by
 obtain ⟨cs',I8,M3,K',F',G',k1,k2,k3,k4,k5,k6,k7⟩:=hT;have Qa7:Kp H1 w w':=k5.mono λi _ hi=>h4 i hi
 have hf: ∀k,X6 s m cs' I8 M3 K' k\/F' k\/G' k->H1 k\/w.heap.size<=k:=by
  rintro k (hk|hk|hk)
  ·exact (k2 k hk).imp (λh=>h4 k (.inl h)) id
  ·exact (k3 k hk).imp (λh=>h4 k (.inr (.inl h))) id
  ·exact (k4 k hk).imp (λh=>h4 k (.inr (.inr h))) id
 have hl: ∀k,X6 s m cs' I8 M3 K' k\/F' k\/G' k->k<w'.heap.size:=by
  rintro k (hk|hk|hk)
  ·exact k1.st.lt k hk
  ·exact k1.at_.disk.lt k hk
  ·exact k1.at_.log.lt k hk
 have hs0:=h.kp.size;rw [<-C1] at k1;refine ⟨_,⟨Qa7.get h.cell h.p1,⟨l,m,cs',I8,M3,K',F',G',k1,k6,k7,λ_ h=>h,hl⟩,(h.ref.keep Qa7 λk h2 hh=>h.sep k hh h2).more hB,λk hk hh=>?_,λhh=>?_,h.p2,⟨h.new.1,λk hk=>?_,h.new.2.2⟩,h.kp.trans Qa7 λi hi hh=>?_⟩,λk hk=>hf k hk,Qa7⟩
 ·rcases hf k hk with h6|h6
  ·exact h.sep k h6 hh
  ·have:=h.ref.lt k hh;omega
 ·rcases hf p hh with h6|h6
  ·exact h.p1 h6
  ·have:=Q3 h.cell;omega
 ·rcases hf k hk with h6|h6
  ·exact h.new.2.1 k h6
  ·omega
 ·have:=h.new.2.1 i hh;omega
theorem Jm.J63 {y:Nat} {la:Option Addr} {lc:Nat} {cs:Z7} {ka:Option Addr} {kc:Nat} {K:List Qa} {F G:Nat->Prop} {B':Nat} (h:Jm w0 w p d s r x P o st ds lg st' ds' X4 B H1 H2) (h4: ∀k,Jj x la lc cs ka kc K k\/F k\/G k->H2 k) (hT:Dx w x r y P (Zp P st'.Xu) o la lc cs ka kc K F G B' st2 ds2 Qhg w') (C1:st2.Xu=st'.Xu) (hB:B<=B'):
  ∃Q6t,Jm w0 w' p d s r x P o st ds lg st2 ds2 Qhg B' H1 Q6t/\Qv H2 Q6t w/\Kp H2 w w':=by
 obtain ⟨la',Q2v,cs',I8,M3,K',F',G',k1,k2,k3,k4,k5,k6,k7,_⟩:=hT;have Qa7:Kp H2 w w':=k5.mono λi _ hi=>h4 i hi
 have hf: ∀k,Jj x la' Q2v cs' I8 M3 K' k\/F' k\/G' k->H2 k\/w.heap.size<=k:=by
  rintro k (hk|hk|hk)
  ·exact (k2 k hk).imp (λh=>h4 k (.inl h)) id
  ·exact (k3 k hk).imp (λh=>h4 k (.inr (.inl h))) id
  ·exact (k4 k hk).imp (λh=>h4 k (.inr (.inr h))) id
 have hl: ∀k,Jj x la' Q2v cs' I8 M3 K' k\/F' k\/G' k->k<w'.heap.size:=by
  obtain ⟨Kb,Ub⟩:=Di.lt' k1.at_;rintro k (hk|hk|hk)
  ·exact k1.st.lt k hk
  ·exact Kb k hk
  ·exact Ub k hk
 have hs0:=h.kp.size;rw [<-C1] at k1;refine ⟨_,⟨Qa7.get h.cell h.p2,(h.prog.keep Qa7 λk h2 hh=>h.sep k h2 hh).more hB,⟨y,la',Q2v,cs',I8,M3,K',F',G',k1,k6,k7,λ_ h=>h,hl⟩,λk hk hh=>?_,h.p1,λhh=>?_,⟨h.new.1,h.new.2.1,λk hk=>?_⟩,h.kp.trans Qa7 λi hi hh=>?_⟩,λk hk=>hf k hk,Qa7⟩
 ·rcases hf k hh with h6|h6
  ·exact h.sep k hk h6
  ·have:=h.prog.lt k hk;omega
 ·rcases hf p hh with h6|h6
  ·exact h.p2 h6
  ·have:=Q3 h.cell;omega
 ·rcases hf k hk with h6|h6
  ·exact h.new.2.2 k h6
  ·omega
 ·have:=h.new.2.2 i hh;omega
theorem Nk {w:World} {x r y o:Nat} {P:ByteArray} {st:J7} {la ka:Option Addr} {lc kc:Nat} {cs:Z7} {K:List Qa} (h:Xx w x r y P o st la lc cs ka kc K):cs.length=st.keys.length:=by
 have:=congrArg List.length h.Et;unfold J3 at this;rwa [List.length_map] at this
theorem Jm.Qs4 {k:Nat} (h:Jm w0 w p d s r x P o st ds lg st' ds' X4 B H1 H2) (hinv:Inv o st') (hh:Mb k P ds' st' X4) (hk:k<=3000) (hQ:(Zp P st'.Xu).size<=50)
  (a:Option Addr) (cap:Nat) (L:List Qa) (hL: ∀W,Kp H2 w W->V2 W a L) (hc:L.length<=cap) (hcm:L.length<=1000000) (hB:B<=900000) (hkn:st'.keys.length<=B) (C1:(Jd P o ds' st' X4 (L.map Qa.r)).2.2.1.Xu=st'.Xu):
  Calls Tryz.prog 21 #[.pointer (some ⟨x,0,none⟩), .slice a L.length cap] w λe w'=>e= .returned (.int .i64 (Jd P o ds' st' X4 (L.map Qa.r)).1)/\ ∃Q6t,
   Jm w0 w' p d s r x P o st ds lg (Jd P o ds' st' X4 (L.map Qa.r)).2.2.1 (Jd P o ds' st' X4 (L.map Qa.r)).2.1 (Jd P o ds' st' X4 (L.map Qa.r)).2.2.2 (B+64) H1 Q6t/\Qv H2 Q6t w/\Kp H2 w w':=by
 obtain ⟨y,la,lc,cs,ka,kc,K,F,G,h1,h2,h3,h4,h5⟩:=h.ref;refine (Q9a h1 hinv rfl hh.fit (λhd=>(hh.whole hd).2) hk hQ (by have:=hh.n;omega) a cap L (λW hW=>hL W (hW.mono λi _ hi=>h4 i hi)) hc hcm B hB h2 h3 (by rw [Nk h1.st];exact hkn)).mono ?_;rintro e w' ⟨rfl,hT⟩;exact ⟨rfl,h.J63 h4 hT C1 (by omega)⟩
theorem Jm.trim {k:Nat} (h:Jm w0 w p d s r x P o st ds lg st' ds' X4 B H1 H2) (hinv:Inv o st) (hh:Mb k P ds st lg) (hk:k<=3000) (Y4:Pow w) (hp0:0<w0.heap.size) (hQ:(Zp P st.Xu).size<=50) (t1 t2:Int) (hB:B<=900000) (hm:Zy st<=1000000000) (C1:(J9 P ds st lg t1 t2).2.2.1.Xu=st.Xu):
  Calls Tryz.prog 23 #[.pointer (some ⟨s,0,none⟩),Xo t1 t2] w λe w'=>e= .returned (.tuple #[.int .i64 ((J9 P ds st lg t1 t2).1.1:Int), .int .i64 (J9 P ds st lg t1 t2).1.2])/\ ∃Q0p,
   Jm w0 w' p d s r x P o (J9 P ds st lg t1 t2).2.2.1 (J9 P ds st lg t1 t2).2.1 (J9 P ds st lg t1 t2).2.2.2 st' ds' X4 B Q0p H2/\Qv H1 Q0p w/\Kp H1 w w':=by
 obtain ⟨l,m,cs,ka,kc,K,F,G,h1,h2,h3,h4,h5⟩:=h.prog
 have hg: ∀k,H1 k->k≠0:=λk hk e=>by
  have:=h.new.2.1 k hk;omega
 refine (Qco h1 hinv rfl hh.fit hk Y4 (λhf=>hg _ (h4 _ (.inr (.inl hf))) rfl) (λhf=>hg _ (h4 _ (.inr (.inr hf))) rfl) hQ (by have:=hh.n;omega) t1 t2 B hB h2 h3 hm).mono ?_;rintro e w' ⟨rfl,hT⟩;exact ⟨rfl,h.J9j h4 hT C1 (Nat.le_refl _)⟩
theorem Jm.Qiz {k:Nat} (h:Jm w0 w p d s r x P o st ds lg st' ds' X4 B H1 H2) (hinv:Inv o st') (hh:Mb k P ds' st' X4) (hk:k<=3000) (hQ:(Zp P st'.Xu).size<=50) (t1 t2:Int) (hB:B<=900000) (hkn:st'.keys.length<=B) (hm:Zy st'<=1000000000) (C1:(J9 P ds' st' X4 t1 t2).2.2.1.Xu=st'.Xu):
  Calls Tryz.prog 24 #[.pointer (some ⟨x,0,none⟩),Xo t1 t2] w λe w'=>e= .returned (.tuple #[.int .i64 ((J9 P ds' st' X4 t1 t2).1.1:Int), .int .i64 (J9 P ds' st' X4 t1 t2).1.2])/\ ∃Q6t,
   Jm w0 w' p d s r x P o st ds lg (J9 P ds' st' X4 t1 t2).2.2.1 (J9 P ds' st' X4 t1 t2).2.1 (J9 P ds' st' X4 t1 t2).2.2.2 B H1 Q6t/\Qv H2 Q6t w/\Kp H2 w w':=by
 obtain ⟨y,la,lc,cs,ka,kc,K,F,G,h1,h2,h3,h4,h5⟩:=h.ref;refine (Q6q h1 hinv rfl hh.fit (λhd=>(hh.whole hd).2) hk hQ (by have:=hh.n;omega) t1 t2 B hB h2 h3 (by rw [Nk h1.st];exact hkn) hm).mono ?_;rintro e w' ⟨rfl,hT⟩;exact ⟨rfl,h.J63 h4 hT C1 (Nat.le_refl _)⟩
end
def Gx (w2:World) (p:Nat):Nat->Prop:=λk=>w2.heap.size<=k/\k≠p
structure O6 (w w2:World) (p d s r x:Nat) (st:J7) (ds:Qu) (lg:J2) (st':J7) (ds':Qu) (X4:J2) (B:Nat) (ra:Option Addr) (n rc:Nat) (R:List Qa) (W:World):Prop where
 pair: ∃H1 H2,Jm w2 W p d s r x Lm 0 st ds lg st' ds' X4 B H1 H2/\ ∀g,(Value.slice ra n rc).ownBlock=some g-> ¬H1 g/\ ¬H2 g
 row:Own W 46 9 (.slice ra n rc) n (R.flatMap recC)
 Uz:R.length=n
 Ih: ∀g,(Value.slice ra n rc).ownBlock=some g->w2.heap.size<=g/\g≠p
 vals: ∀y∈R,y.rd w
 kp:Kp No w W
section
variable {w w2 W W':World} {p d s r x B n rc:Nat} {st st':J7} {ds ds':Qu} {lg X4:J2} {ra:Option Addr} {R:List Qa}
theorem O6.no (h:O6 w w2 p d s r x st ds lg st' ds' X4 B ra n rc R W) (hk:Kp No W W'):O6 w w2 p d s r x st ds lg st' ds' X4 B ra n rc R W':=by
 obtain ⟨⟨H1,H2,h1,h2⟩,h3,h4,h5,h6,h7⟩:=h;exact ⟨⟨H1,H2,h1.no hk,h2⟩,h3.keep hk λ_ _ x=>x,h4,h5,h6,h7.trans_same hk⟩
theorem O6.recs (h:O6 w w2 p d s r x st ds lg st' ds' X4 B ra n rc R W):V2 W ra R:=⟨Own.rd' h.row,λy hy=>Qd.Fg (h.vals y hy) h.kp⟩
theorem O6.cells (h:O6 w w2 p d s r x st ds lg st' ds' X4 B ra n rc R W):W.cell? ⟨p,1,none⟩=some (.pointer (some ⟨s,0,none⟩))/\W.cell? ⟨p,3,none⟩=some (.pointer (some ⟨x,0,none⟩))/\p<W.heap.size:=by
 obtain ⟨H1,H2,h1,h2⟩:=h.pair;exact ⟨h1.at_ zK 1,h1.at_ zK 3,Q3 h1.cell⟩
theorem O6.Qou {H1 H2 Q0p:Nat->Prop} {st2:J7} {ds2:Qu} {Qhg:J2} {B':Nat} (h:O6 w w2 p d s r x st ds lg st' ds' X4 B ra n rc R W) (hf: ∀g,(Value.slice ra n rc).ownBlock=some g-> ¬H1 g/\ ¬H2 g) (hw2:w.heap.size<=w2.heap.size) (hn: ∀k,H1 k->w2.heap.size<=k) (hp:Jm w2 W' p d s r x Lm 0 st2 ds2 Qhg st' ds' X4 B' Q0p H2) (hft:Qv H1 Q0p W) (hk:Kp H1 W W'):
  O6 w w2 p d s r x st2 ds2 Qhg st' ds' X4 B' ra n rc R W':=
 ⟨⟨Q0p,H2,hp,λg hg=>⟨λhh=>(hft g hh).elim (λh1=>(hf g hg).1 h1) λh1=>by have:=h.row.lt g hg;omega,(hf g hg).2⟩⟩,h.row.keep hk λg hg hh=>(hf g hg).1 hh,h.Uz,h.Ih,h.vals,h.kp.trans hk λi hi hh=>by have:=hn i hh;omega⟩
theorem O6.Qov {H1 H2 Q6t:Nat->Prop} {st2:J7} {ds2:Qu} {Qhg:J2} {B':Nat} (h:O6 w w2 p d s r x st ds lg st' ds' X4 B ra n rc R W) (hf: ∀g,(Value.slice ra n rc).ownBlock=some g-> ¬H1 g/\ ¬H2 g) (hw2:w.heap.size<=w2.heap.size) (hn: ∀k,H2 k->w2.heap.size<=k) (hp:Jm w2 W' p d s r x Lm 0 st ds lg st2 ds2 Qhg B' H1 Q6t) (hft:Qv H2 Q6t W) (hk:Kp H2 W W'):
  O6 w w2 p d s r x st ds lg st2 ds2 Qhg B' ra n rc R W':=
 ⟨⟨H1,Q6t,hp,λg hg=>⟨(hf g hg).1,λhh=>(hft g hh).elim (λh1=>(hf g hg).2 h1) λh1=>by have:=h.row.lt g hg;omega⟩⟩,h.row.keep hk λg hg hh=>(hf g hg).2 hh,h.Uz,h.Ih,h.vals,h.kp.trans hk λi hi hh=>by have:=hn i hh;omega⟩
end
section
variable {w w2 W W':World} {p d s r x B n rc k:Nat} {st st':J7} {ds ds':Qu} {lg X4:J2} {ra:Option Addr} {R:List Qa}
theorem O6.cap (h:O6 w w2 p d s r x st ds lg st' ds' X4 B ra n rc R W):n<=rc:=by
 obtain ⟨_,a9,c9,e9,h9,_⟩:=h.row;injection e9 with _ _ e9;omega
theorem O6.put (h:O6 w w2 p d s r x st ds lg st' ds' X4 B ra n rc R W) (hw2:w.heap.size<=w2.heap.size) (Y4:Pow w) (hg:0<w2.heap.size) (hinv:Inv 0 st) (hh:Mb k Lm ds st lg) (hk:k<=3000) (hQ:(Zp Lm st.Xu).size<=50) (hn:n<=1000000) (hB:B<=900000) {q:Int×Qu×J7×J2} (hq:q=Jd Lm 0 ds st lg (R.map Qa.r)):
  Calls Tryz.prog 18 #[.pointer (some ⟨s,0,none⟩), .slice ra n rc] W λe w'=>e= .returned (.int .i64 q.1)/\O6 w w2 p d s r x q.2.2.1 q.2.1 q.2.2.2 st' ds' X4 (B+64) ra n rc R w'/\Kp (Gx w2 p) W w':=by
 obtain ⟨H1,H2,hP,hf⟩:=h.pair;have h1:=hP.put (k:=k) hinv hh.fit hk (Y4.keep h.kp) hg hQ (by have:=hh.n;omega) ra rc R (λV hV=>⟨Own.rd' (h.row.keep hV λg hg hh=>(hf g hg).1 hh),λy hy=>Qd.Fg (h.vals y hy) (h.kp.trans hV λi hi hh=>by have:=hP.new.2.1 i hh;omega)⟩) (by rw [h.Uz];exact h.cap) (by rw [h.Uz];exact hn) hB (by rw [Q35]);rw [h.Uz,<-hq] at h1;refine h1.mono ?_;rintro e w' ⟨rfl,Q0p,hP',hft,hkk⟩;exact ⟨rfl,h.Qou hf hw2 hP.new.2.1 hP' hft hkk,hkk.mono λi _ hi=>⟨hP.new.2.1 i hi,λe=>hP.p1 (e▸hi)⟩⟩
theorem O6.Qs4 (h:O6 w w2 p d s r x st ds lg st' ds' X4 B ra n rc R W) (hw2:w.heap.size<=w2.heap.size) (hinv:Inv 0 st') (hh:Mb k Lm ds' st' X4) (hk:k<=3000) (hQ:(Zp Lm st'.Xu).size<=50) (hn:n<=1000000) (hB:B<=900000) (hkn:st'.keys.length<=B) {q:Int×Qu×J7×J2} (hq:q=Jd Lm 0 ds' st' X4 (R.map Qa.r)):
  Calls Tryz.prog 21 #[.pointer (some ⟨x,0,none⟩), .slice ra n rc] W λe w'=>e= .returned (.int .i64 q.1)/\O6 w w2 p d s r x st ds lg q.2.2.1 q.2.1 q.2.2.2 (B+64) ra n rc R w'/\Kp (Gx w2 p) W w':=by
 obtain ⟨H1,H2,hP,hf⟩:=h.pair;have h1:=hP.Qs4 (k:=k) hinv hh hk hQ ra rc R (λV hV=>⟨Own.rd' (h.row.keep hV λg hg hh=>(hf g hg).2 hh),λy hy=>Qd.Fg (h.vals y hy) (h.kp.trans hV λi hi hh=>by have:=hP.new.2.2 i hh;omega)⟩) (by rw [h.Uz];exact h.cap) (by rw [h.Uz];exact hn) hB hkn (by rw [Q35]);rw [h.Uz,<-hq] at h1;refine h1.mono ?_;rintro e w' ⟨rfl,Q6t,hP',hft,hkk⟩;exact ⟨rfl,h.Qov hf hw2 hP.new.2.2 hP' hft hkk,hkk.mono λi _ hi=>⟨hP.new.2.2 i hi,λe=>hP.p2 (e▸hi)⟩⟩
theorem O6.trim (h:O6 w w2 p d s r x st ds lg st' ds' X4 B ra n rc R W) (hw2:w.heap.size<=w2.heap.size) (Y4:Pow w) (hg:0<w2.heap.size) (hinv:Inv 0 st) (hh:Mb k Lm ds st lg) (hk:k<=3000) (hQ:(Zp Lm st.Xu).size<=50) (t1 t2:Int) (hB:B<=900000) (hm:Zy st<=1000000000) {q:(Nat×Int)×Qu×J7×J2} (hq:q=J9 Lm ds st lg t1 t2):
  Calls Tryz.prog 23 #[.pointer (some ⟨s,0,none⟩),Xo t1 t2] W λe w'=>e= .returned (.tuple #[.int .i64 (q.1.1:Int), .int .i64 q.1.2])/\O6 w w2 p d s r x q.2.2.1 q.2.1 q.2.2.2 st' ds' X4 B ra n rc R w'/\Kp (Gx w2 p) W w':=by
 obtain ⟨H1,H2,hP,hf⟩:=h.pair;have h1:=hP.trim (k:=k) hinv hh hk (Y4.keep h.kp) hg hQ t1 t2 hB hm (by rw [Q6i]);rw [<-hq] at h1;refine h1.mono ?_;rintro e w' ⟨rfl,Q0p,hP',hft,hkk⟩;exact ⟨rfl,h.Qou hf hw2 hP.new.2.1 hP' hft hkk,hkk.mono λi _ hi=>⟨hP.new.2.1 i hi,λe=>hP.p1 (e▸hi)⟩⟩
theorem O6.Qiz (h:O6 w w2 p d s r x st ds lg st' ds' X4 B ra n rc R W) (hw2:w.heap.size<=w2.heap.size) (hinv:Inv 0 st') (hh:Mb k Lm ds' st' X4) (hk:k<=3000) (hQ:(Zp Lm st'.Xu).size<=50) (t1 t2:Int) (hB:B<=900000) (hkn:st'.keys.length<=B) (hm:Zy st'<=1000000000) {q:(Nat×Int)×Qu×J7×J2} (hq:q=J9 Lm ds' st' X4 t1 t2):
  Calls Tryz.prog 24 #[.pointer (some ⟨x,0,none⟩),Xo t1 t2] W λe w'=>e= .returned (.tuple #[.int .i64 (q.1.1:Int), .int .i64 q.1.2])/\O6 w w2 p d s r x st ds lg q.2.2.1 q.2.1 q.2.2.2 B ra n rc R w'/\Kp (Gx w2 p) W w':=by
 obtain ⟨H1,H2,hP,hf⟩:=h.pair;have h1:=hP.Qiz (k:=k) hinv hh hk hQ t1 t2 hB hkn hm (by rw [Q6i]);rw [<-hq] at h1;refine h1.mono ?_;rintro e w' ⟨rfl,Q6t,hP',hft,hkk⟩;exact ⟨rfl,h.Qov hf hw2 hP.new.2.2 hP' hft hkk,hkk.mono λi _ hi=>⟨hP.new.2.2 i hi,λe=>hP.p2 (e▸hi)⟩⟩
theorem O6.ref (h:O6 w w2 p d s r x st ds lg st' ds' X4 B ra n rc R W): ∃y la lc cs ka kc K,Xx W x r y Lm 0 st' la lc cs ka kc K/\cs.length=st'.keys.length:=by
 obtain ⟨H1,H2,hP,hf⟩:=h.pair;obtain ⟨y,la,lc,cs,ka,kc,K,F,G,h1,_⟩:=hP.ref;exact ⟨y,la,lc,cs,ka,kc,K,h1.st,Nk h1.st⟩
theorem O6.get (h:O6 w w2 p d s r x st ds lg st' ds' X4 B ra n rc R W) (hinv:Inv 0 st) (hB:B<=1000000) (key:ByteArray) (t1 t2:Int) (ht:t1<=9223372036854775807):
  Calls Tryz.prog 26 #[.pointer (some ⟨s,0,none⟩), .string key,Xo t1 t2] W (Q9e W (Ha st key t1 t2)):=by
 obtain ⟨H1,H2,hP,hf⟩:=h.pair;exact hP.get hinv hB key t1 t2 ht
end
end Go.Proofs.YtgnkmjeoaoongaaGreatDoor
