/- store -/
import Derived.Test.YtgnkmjeoaoongaaGreatDoorVe8
import Derived.Test.YtgnkmjeoaoongaaGreatDoorVe6
import Derived.Test.YtgnkmjeoaoongaaGreatDoorVe7
set_option maxRecDepth 100000
set_option maxHeartbeats 8000000
namespace Go.Proofs.YtgnkmjeoaoongaaGreatDoor
open Go.RowKit Go.Mer
section
variable {w0 w w':World} {p d s r x o B:Nat} {P:ByteArray} {st st':Ja} {ds ds':Qz} {lg X9:Jf} {H1 H2:Nat->Prop}
theorem Q1q {s m:Nat} {cs:Zn} {ka:Option Addr} {kc:Nat} {K:List Qe} {u:Int} {k:Nat} (h:Ve s m cs ka kc (Zz u K) k):Ve s m cs ka kc K k:=by
 rcases h with h|h|h|h|⟨z,hz,h⟩
 ·exact .inl h
 ·exact .inr (.inl h)
 ·exact .inr (.inr (.inl h))
 ·exact .inr (.inr (.inr (.inl ((Bf ka _ _ kc kc).trans h))))
 ·exact .inr (.inr (.inr (.inr ⟨z,(List.mem_filter.1 hz).1,h⟩)))
theorem Qt.forget (h:Qt w0 w p d s r x P o st ds lg st' ds' X9 B H1 H2) (hB:B<=1000000) (u:Int):
  Calls Tryz.prog 33 #[.pointer (some ⟨s,0,none⟩), .int .i64 u] w λe w'=>e= .returned (.tuple #[])/\ ∃Hu,Qt w0 w' p d s r x P o (Xg st u) ds lg st' ds' X9 B Hu H2/\Kp H1 w w':=by
 obtain ⟨l,m,cs,ka,kc,K,F,G,h1,h2,h3,h4,h5⟩:=h.prog;refine (Q91 h1.st u (Nat.le_trans h3 hB)).mono ?_;rintro e w' ⟨rfl,hS,hk⟩
 have hsub: ∀g,(g=s\/(Value.slice ka K.length kc).ownBlock=some g)->Ve s m cs ka kc K g:=by
  rintro g (hg|hg)
  ·exact .inl hg
  ·exact .inr (.inr (.inr (.inl hg)))
 obtain ⟨Hu,k1,_,k3⟩:=h.Jhv (B':=B) (st2:=Xg st u) (ds2:=ds) (Qe1:=lg) h4 ⟨cs,ka,kc,Zz u K,F,G,⟨hS,h1.at_.Kf hk (λk hf hs=>h1.sF k (hsub k hs) hf) (λk hf hs=>h1.sG k (hsub k hs) hf),λi hi=>h1.sF i (Q1q hi),λi hi=>h1.sG i (Q1q hi)⟩,λk hk=> .inl (Q1q hk),λ_ h=> .inl h,λ_ h=> .inl h,hk.mono λi _ hi=> .inl (hsub i hi),h2,Nat.le_trans (List.length_filter_le _ _) h3⟩ rfl (Nat.le_refl _);exact ⟨rfl,Hu,k1,k3⟩
theorem Qt.Qrl (h:Qt w0 w p d s r x P o st ds lg st' ds' X9 B H1 H2) (hB:B<=1000000) (hkn:st'.keys.length<=B) (u:Int):
  Calls Tryz.prog 34 #[.pointer (some ⟨x,0,none⟩), .int .i64 u] w λe w'=>e= .returned (.tuple #[])/\ ∃Q69,Qt w0 w' p d s r x P o st ds lg (Xg st' u) ds' X9 B H1 Q69/\Kp H2 w w':=by
 obtain ⟨y,la,lc,cs,ka,kc,K,F,G,h1,h2,h3,h4,h5⟩:=h.ref;refine (Q9o h1.st u (Nat.le_trans h3 hB)).mono ?_;rintro e w' ⟨rfl,a,c,hS,hn,hk⟩;have hsub: ∀g,Mer.One x g->Zg x la lc cs ka kc K g:=λg hg=> .inl hg;obtain ⟨Bx,Ku⟩:=Mr.lt' h1.at_
 have hft: ∀k,Zg x la lc cs a c (Zz u K) k->Zg x la lc cs ka kc K k\/w.heap.size<=k:=by
  rintro k (hh|hh|hh|hh|⟨z,hz,hh⟩)
  ·exact .inl (.inl hh)
  ·exact .inl (.inr (.inl hh))
  ·exact .inl (.inr (.inr (.inl hh)))
  ·exact .inr (hn k hh)
  ·exact .inl (.inr (.inr (.inr (.inr ⟨z,(List.mem_filter.1 hz).1,hh⟩))))
 have hnF: ∀i,Zg x la lc cs a c (Zz u K) i-> ¬F i:=λi hi hf=>by
  rcases hft i hi with h6|h6
  ·exact h1.sF i h6 hf
  ·have:=Bx i hf;omega
 have Jgv: ∀i,Zg x la lc cs a c (Zz u K) i-> ¬G i:=λi hi hf=>by
  rcases hft i hi with h6|h6
  ·exact h1.sG i h6 hf
  ·have:=Ku i hf;omega
 obtain ⟨Q69,k1,_,k3⟩:=h.Jcw (B':=B) (st2:=Xg st' u) (ds2:=ds') (Qe1:=X9) h4 ⟨la,lc,cs,a,c,Zz u K,F,G,⟨hS,h1.at_.Qlm hk (λk hf hs=>h1.sF k (hsub k hs) hf) (λk hf hs=>h1.sG k (hsub k hs) hf),hnF,Jgv⟩,hft,λ_ h=> .inl h,λ_ h=> .inl h,hk.mono λi _ hi=> .inl (hsub i hi),h2,Nat.le_trans (List.length_filter_le _ _) h3,by rw [Q0o h1.st];exact hkn⟩ rfl (Nat.le_refl _);exact ⟨rfl,Q69,k1,k3⟩
end
theorem Q7s {o:Nat} {st:Ja} (hinv:Inv o st) (h:st.kept.length<=1000):V6 st 0 1000=st.kept:=by
 unfold V6;have e:(1000:Int).toNat=1000:=rfl;rw [e,List.filter_eq_self.2 λr hr=>?_,List.take_of_length_le h];obtain ⟨i,hi,rfl⟩:=List.getElem_of_mem hr;have:=(Y9.1 (hinv.kept i hi).1).2.2.1;exact decide_eq_true (by omega)
theorem Qph {α:Type} (p:α->Bool) {l:List α} {i:Nat} (hi:i<l.length) (h:p l[i]=true):(l.filter p)[((l.take i).filter p).length]?=some l[i]:=by
 have he:l=l.take i++l[i]::l.drop (i+1):=by rw [<-List.drop_eq_getElem_cons hi,List.take_append_drop]
 conv=>lhs;lhs;rw [he]
 rw [List.filter_append,List.filter_cons_of_pos h,List.getElem?_append_right (Nat.le_refl _),Nat.sub_self];rfl
theorem Qjw {α:Type} (p:α->Bool) {l:List α} {i:Nat} (hi:i<l.length) (h:p l[i]=true):((l.take (i+1)).filter p).length=((l.take i).filter p).length+1:=by
 rw [List.take_succ_eq_append_getElem hi,List.filter_append,List.filter_cons_of_pos h,List.length_append];rfl
theorem Qpi {α:Type} (p:α->Bool) {l:List α} {i:Nat} (hi:i<l.length) (h:p l[i]=false):((l.take (i+1)).filter p).length=((l.take i).filter p).length:=by
 rw [List.take_succ_eq_append_getElem hi,List.filter_append,List.filter_cons_of_neg (by rw [h];decide),List.length_append];rfl
theorem Q8u {w:World} {g off:Nat} {y:Qe} (h:w.rangeAt g off (recC y)) (hg:g<w.heap.size) (hy:y.rd w):Y1 w (some ⟨g,off,none⟩) [y]:=
 ⟨λ_=>⟨g,off,rfl,hg,Nat.le_refl _,λj u hu=>h j u (by simpa using hu)⟩,λz hz=>by rw [List.mem_singleton.1 hz];exact hy⟩
theorem Q5o (w:World) (Yo:Pow w) (a:Option Addr) (cap:Nat) (L:List RowR) (hL:RowsIn w a L) (hcp:L.length<=cap) (hl:L.length<=140737488351232) (u t1 t2:Int) (ht:t1<=9223372036854775807):
  Calls Tryz.prog 6 #[.slice a L.length cap, .int .i64 u,Xl t1 t2] w λe w'=>e= .returned (.bool true)/\Kp No w w':=by
 obtain ⟨n,Xw⟩: ∃n,n=L.length:=⟨_,rfl⟩;obtain ⟨wA,hwA⟩: ∃W,W=w.alloc (.cells #[.int .i64 t1, .int .i64 t2] 25):=⟨_,rfl⟩;obtain ⟨w1,hw1⟩: ∃W,W=wA.alloc (.cells #[.int .i64 0, .int .i64 0, .int .u8 0, .int .i64 0, .int .i64 0, .slice a n cap, .slice none 0 0] 28):=⟨_,rfl⟩;obtain ⟨tb,htb⟩: ∃b,b=w.heap.size:=⟨_,rfl⟩;obtain ⟨b,hb⟩: ∃b,b=wA.heap.size:=⟨_,rfl⟩;have kA:Kp No w wA:=by rw [hwA];exact zK.alloc _
 have k1:Kp No wA w1:=by rw [hw1];exact zK.alloc _
 have bt:wA.heap[tb]?=some (.cells #[.int .i64 t1, .int .i64 t2] 25 (0,0)):=by rw [hwA,htb];exact heap_alloc_new w _
 have Qli:=kA.Q0 k1;have hh:=L4 w1 b a cap L (by rw [hw1,hb,Xw];exact heap_alloc_new wA _) (hL.kp Qli) hl;have HT:=zz (k1.get bt λx=>x);have HH:=zz hh;have HW:=zz (And.intro hwA (And.intro hw1 (And.intro htb hb)));have Yq:=zz Qli;have HN:=zz Xw;have HL:=zz hL;have Dd:=zz Yo;rw [<-Xw] at hcp⊢;simp only [Xl];have Qs1:=zz hcp;clear Yo hL hl hwA hw1 htb hb kA k1 bt Qli hh Xw hcp;go_enter Tryz.func6,Tryz.ntmps6
 go_upto_region 1 with fail
 rw [<-HW.out.1,<-HW.out.2.2.1];go_wp2_with fail
 rw [<-HW.out.2.1,<-HW.out.2.2.2];refine HH.out.mono ?_;rintro e w2 ⟨hb,rfl,himp,k2⟩;have J9:=zz (Yq.out.Q0 k2);have HT2:=zz (k2.get HT.out λx=>x);clear k2 HH HT himp;cases hb with
 |true=>
  have U3:=zz (Jv w2 (Dd.out.keep J9.out));go_wp2_with fail
  refine U3.out.mono ?_;rintro e wz ⟨rfl,kz⟩;have Lp:=zz (J9.out.Q0 kz);clear kz U3;go_wp2_with fail
  go_ret
  exact ⟨rfl,Lp.out⟩
 |false=>
  rcases Nat.lt_or_ge 60 n with h64|h64
  ·have d1:decide ((60:Int)<(n:Int))=true:=decide_eq_true (by omega);have d1':decide (60<n)=true:=decide_eq_true h64;clear h64;have U3:=zz (Jv w2 (Dd.out.keep J9.out));go_wp2_with fail
   refine U3.out.mono ?_;rintro e wz ⟨rfl,kz⟩;have Lp:=zz (J9.out.Q0 kz);clear kz U3;go_wp2_with fail
   go_ret
   exact ⟨rfl,Lp.out⟩
  have d1:decide ((60:Int)<(n:Int))=false:=decide_eq_false (by omega);have d1':decide (60<n)=false:=decide_eq_false (by omega);have hfl:=Gw w2 (Dd.out.keep J9.out) a cap L (HL.out.kp J9.out) (by rw [<-HN.out];exact Qs1.out) (by rw [<-HN.out];omega);rw [<-HN.out] at hfl;have Ao:=zz hfl;clear hfl;go_wp2_with fail
  refine Ao.out.mono ?_;rintro e w3 ⟨p,d,s,r,x,H1,H2,st,ds,lg,rfl,hP,hq⟩;have hfil:=Q4l hq (by omega);have c1:w3.cell? ⟨p,1,none⟩=some (.pointer (some ⟨s,0,none⟩)):=hP.at_ zK 1;have lp:=Q7 hP.cell;have Zk:=zz (J9.out.Q0 hP.kp);have HT3:=zz (hP.kp.get HT2.out λx=>x);have hkt:=hP.Qlo hfil.inv (by omega) 0 1000;rw [Q7s hfil.inv (by have:=hfil.kept;omega)] at hkt;have J3u:=zz hkt;have K7:=zz hfil;have Ap:=zz hP;have Gg:=zz (Q7 HT2.out);clear hP hq hfil Ao HT2 hkt;go_wp2_with fail
  refine J3u.out.mono ?_;rintro e w4 ⟨ra,rc,R1,rfl,Jc8,hv4,he4,k4,hn4,hm4⟩;obtain ⟨rn,hrn⟩: ∃k,k=R1.length:=⟨_,rfl⟩;rw [<-hrn]
  have Jh2:rn<=60:=by
   have h1:=congrArg List.length he4;rw [List.length_map] at h1;have:=K7.out.kept;omega
  have HR4:=zz (And.intro Jc8 (And.intro hv4 (And.intro he4 (And.intro hrn (And.intro hn4 hm4)))));have Qz7:=zz (Ap.out.no k4);have Gf:=zz (Zk.out.Q0 k4);have HT4:=zz (k4.get HT3.out λx=>x);have c14:w4.cell? ⟨p,1,none⟩=some (.pointer (some ⟨s,0,none⟩)):=Qz7.out.at_ zK 1;have J9f:=Q7 Qz7.out.cell;have Ja5:=zz (Qz7.out.forget (by omega) u);clear Jc8 hv4 he4 k4 hn4 hm4 hrn c1 lp J3u;go_wp2_with fail
  refine Ja5.out.mono ?_;rintro e w5 ⟨rfl,Hu,Qbb,hk5⟩;have Qxf:=zz Qbb;have Vb:=zz hk5;have Jf9:w5.cell? ⟨p,3,none⟩=some (.pointer (some ⟨x,0,none⟩)):=Qbb.at_ zK 3;have Qte:=Q7 Qbb.cell;have Ja7:=zz (Qbb.Qrl (by omega) (by have:=K7.out.keys;omega) u);clear Qbb hk5 c14 J9f Ja5;go_wp2_with fail
  refine Ja7.out.mono ?_;rintro e w6 ⟨rfl,Q69,Q2o,hk6⟩;have Ma:=zz Q2o
  have Qxh:=zz (show Own w6 46 9 (.slice ra R1.length rc) R1.length (R1.flatMap recC)/\ ∀y∈R1,y.ok w6 from by
   have hH1:=Ap.out.prog.lt;have hH2:=Ap.out.ref.lt;refine ⟨(HR4.out.1.keep Vb.out λg hg hh=>?_).keep hk6 λg hg hh=>?_,λy hy=>Qm.ok.keep (Qm.ok.keep (HR4.out.2.1 y hy) Vb.out λg hg hh=>?_) hk6 λg hg hh=>?_⟩
   ·have:=hH1 g hh;have:=HR4.out.2.2.2.2.1 g hg;omega
   ·have:=hH2 g hh;have:=HR4.out.2.2.2.2.1 g hg;omega
   ·have:=hH1 g hh;have:=HR4.out.2.2.2.2.2 y hy g hg;omega
   ·have:=hH2 g hh;have:=HR4.out.2.2.2.2.2 y hy g hg;omega)
  have Qxi:=zz (show w6.heap[tb]?=some (.cells #[.int .i64 t1, .int .i64 t2] 25 (0,0)) from by
   have hl:=Q7 HT3.out;have hH1:=Ap.out.new.2.1;have hH2:=Ap.out.new.2.2;have hl2:tb<w2.heap.size:=Gg.out;exact hk6.get (Vb.out.get HT4.out λhh=>by have:=hH1 tb hh;omega) λhh=>by have:=hH2 tb hh;omega)
  have J3s:=zz (Qby K7.out.inv u);have hkn:=Ma.out.Qlo J3s.out (by omega) 0 1000
  rw [Q7s J3s.out (by
   show (st.kept.filter _).length<=1000
   have h1:=List.length_filter_le (λr:Qu=>decide (u<r.seq)) st.kept;have:=K7.out.kept;omega)] at hkn
  have Qyk:=zz hkn;have c16:w6.cell? ⟨p,1,none⟩=some (.pointer (some ⟨s,0,none⟩)):=Q2o.at_ zK 1;have J33:=Q7 Q2o.cell;have J5i:=zz (J9.out.Q0 Q2o.kp);clear Q2o hk6 hkn Jf9 Qte Ja7;go_wp2_with fail
  refine Qyk.out.mono ?_;rintro e w7 ⟨sa,sc,R2,rfl,Qa1,hv7,J7j,k7,_⟩;obtain ⟨sn,hsn⟩: ∃k,k=R2.length:=⟨_,rfl⟩;rw [<-hsn]
  have Q9y:=zz (show (∀W,Kp No w7 W->Y1 W ra R1)/\(∀W,Kp No w7 W->Y1 W sa R2)/\R1.map Qe.r=st.kept/\R2.map Qe.r=st.kept.filter (λr=>decide (u<r.seq))/\rn=R1.length/\sn=R2.length from
   ⟨λW hW=>⟨Rd.kp (Own.rd' Qxh.out.1) (k7.Q0 hW),λy hy=>Qm.X0 (Qe.ok.rd (Qxh.out.2 y hy)) (k7.Q0 hW)⟩,λW hW=>⟨Rd.kp (Own.rd' Qa1) hW,λy hy=>Qm.X0 (Qe.ok.rd (hv7 y hy)) hW⟩,HR4.out.2.2.1,J7j,HR4.out.2.2.2.1,hsn⟩)
  have Jh6:sn<=rn:=by
   have h1:=congrArg List.length J7j;rw [List.length_map,<-hsn] at h1;have h2:=congrArg List.length HR4.out.2.2.1;rw [List.length_map,<-HR4.out.2.2.2.1] at h2;have h3:=List.length_filter_le (λr:Qu=>decide (u<r.seq)) st.kept;have h4:sn=(st.kept.filter λr=>decide (u<r.seq)).length:=h1;omega
  have hrc:rn<=rc:=by
   obtain ⟨_,a9,c9,e9,h9,_⟩:=Qxh.out.1;injection e9 with _ _ e9;have:=HR4.out.2.2.2.1;omega
  have hsc:sn<=sc:=by
   obtain ⟨_,a9,c9,e9,h9,_⟩:=Qa1;injection e9 with _ _ e9;omega
  have Qim:=zz (Ma.out.no k7);have M7:=zz (J5i.out.Q0 k7);have Qsa:=zz (k7.get Qxi.out λx=>x);clear Qa1 hv7 J7j k7 hsn c16 J33 Qyk;go_wp2_with fail
  go_loopw [11,12] (λv i wr=> ∃k lo:Nat,k<=rn/\v= .int .i64 (lo:Int)/\i= .int .i64 (k:Int)/\lo<=k/\Hid (lo=((st.kept.take k).filter λr=>decide (u<r.seq)).length)/\Hid (Kp No w7 wr)) (λ_ i _=>rn-(intOf i).toNat)
  case atStart=>exact ⟨0,0,Nat.zero_le _,rfl,rfl,Nat.le_refl _,zz (by simp),zz zK⟩
  case round=>
   obtain ⟨k,lo,hk,rfl,rfl,hlk,Kt,HK⟩:=hrel;rcases Nat.lt_or_ge k rn with hlt|hge
   ·have hk1:k<R1.length:=by have:=Q9y.out.2.2.2.2.1;omega
    have hks:k<st.kept.length:=by rw [<-Q9y.out.2.2.1,List.length_map];exact hk1
    have hkk:st.kept[k]=R1[k].r:=by
     have e:=congrArg (λl=>l[k]?) Q9y.out.2.2.1;simp only [List.getElem?_map,List.getElem?_eq_getElem hk1,List.getElem?_eq_getElem hks,Option.map_some] at e;exact (Option.some.inj e).symm
    have hw:=Q9y.out.1 wr HK.out;obtain ⟨g,off,rfl,hgl,hgr⟩:=Jx hw.1 hk1;have hrd:=hw.2 _ (List.getElem_mem hk1);obtain ⟨y,hy⟩: ∃y,y=R1[k]:=⟨_,rfl⟩;rw [<-hy] at hgr hkk hrd
    have c1:wr.cell? ⟨g,off+k*9+1,none⟩=some (.int .i64 y.r.seq):=by
     have:=hgr wr zK 1 _ rfl;exact this
    have HY:=zz (And.intro (show ∃h:k<st.kept.length,st.kept[k]=y.r from ⟨hks,hkk⟩) (And.intro hgr hrd));clear hk1 hks hkk hw hgr hrd hy;by_cases hq:y.r.seq<=u
    ·have e1:decide (y.r.seq<=u)=true:=decide_eq_true hq
     have HN:=zz (show lo=((st.kept.take (k+1)).filter λr=>decide (u<r.seq)).length from by
      obtain ⟨hks,hkk⟩:=HY.out.1;rw [Qpi _ hks (by rw [hkk];exact decide_eq_false (by omega))];exact Kt.out)
     clear hq;go_wp2_with fail
     go_roundw
     case rel=>exact ⟨k+1,lo,hlt,rfl,by go_num,by omega,HN,HK⟩
     case measure=>simp [intOf];omega
    ·have e1:decide (y.r.seq<=u)=false:=decide_eq_false hq;obtain ⟨hks,hkk⟩:=HY.out.1;have hpt:decide (u<st.kept[k].seq)=true:=by rw [hkk];exact decide_eq_true (by omega)
     have hat:=Qph (λr:Qu=>decide (u<r.seq)) hks hpt;have hys:=Qjw (λr:Qu=>decide (u<r.seq)) hks hpt;rw [<-Kt.out] at hat hys;rw [<-Q9y.out.2.2.2.1,List.getElem?_map] at hat;obtain ⟨z,hz,hze⟩:=Option.map_eq_some_iff.1 hat;have hl2:=(List.getElem?_eq_some_iff.1 hz).1;have hzz:=(List.getElem?_eq_some_iff.1 hz).2;have hw:=Q9y.out.2.1 wr HK.out;obtain ⟨g2,Im,rfl,Qfv,Qvh⟩:=Jx hw.1 hl2;have Qw1:=hw.2 _ (List.getElem_mem hl2);rw [hzz] at Qvh Qw1;have hls:lo<sn:=by rw [Q9y.out.2.2.2.2.2];exact hl2
     have hrr:=λq=>Bh (wr.drewN q) (some ⟨g2,Im+lo*9,none⟩) (some ⟨g,off+k*9,none⟩) (sc-lo) (rc-k) [z] [y] (Q8u (Qvh _ ((Kp.refl No wr).drewN q)) Qfv (Qm.X0 Qw1 ((Kp.refl No wr).drewN q))) (Q8u (HY.out.2.1 _ ((Kp.refl No wr).drewN q)) hgl (Qm.X0 HY.out.2.2 ((Kp.refl No wr).drewN q))) (by
      show [z.r]=[y.r]
      rw [hze,hkk]) (by simp)
     have HRR:=zz (show ∀q,Calls Tryz.prog _ #[.slice (some ⟨g2,Im+lo*9,none⟩) 1 (sc-lo), .slice (some ⟨g,off+k*9,none⟩) 1 (rc-k)] (wr.drewN q) _ from hrr);have HN:=zz hys.symm;have J87:decide ((sn:Int)<=(lo:Int))=false:=decide_eq_false (by omega);have J88:decide (sn<=lo)=false:=decide_eq_false (by omega);have hc1:(lo:Int)+1<=(sc:Int):=by omega
     have hc2:(k:Int)+1<=(rc:Int):=by omega
     have hc3:(0:Int)<=(lo:Int)+1:=by omega
     have hc4:(0:Int)<=(k:Int)+1:=by omega
     have hc5: ¬sc=lo:=by omega
     have hc6: ¬rc=k:=by omega
     clear hq hks hkk hpt hat hys hz hze hl2 hzz hw Qvh Qw1 hrr;go_upto_region 15 with fail
     clear c1;refine zD No [0,0,0,0,0,0,0,0,0,0,0,0,0,0,0,2,0,0] [0,1,2,3,4,5,6,7,8,9,10,11,12,13,14,15,16,17] ?_;repeat (first|refine zA ?_|refine zB ?_|refine zC ?_)
     refine Q8 rfl rfl (λn1=>?_);go_wp2_with fail
     (try simp only [Option.map_some,Z8])
     refine (HRR.out n1).mono ?_;rintro e w8 ⟨rfl,k8⟩;have J90:Kp No wr w8:=k8.Qf;go_wp2_with fail
     (try refine ⟨J90,?_⟩)
     repeat (first|refine zA ?_|refine zB ?_|refine zC ?_)
     refine Qa (λnq=>?_);have Ks:=zz (HK.out.Q0 (J90.drewN nq));clear k8 J90 HRR hgl Qfv;go_wp2_with fail
     go_roundw
     case rel=>exact ⟨k+1,lo+1,hlt,by go_num,by go_num,by omega,HN,Ks⟩
     case measure=>simp [intOf];omega
   ·obtain rfl:k=rn:=by omega
    have hls:lo=sn:=by
     have h1:=congrArg List.length Q9y.out.2.2.1;rw [List.length_map,<-Q9y.out.2.2.2.2.1] at h1;have h2:=congrArg List.length Q9y.out.2.2.2.1;rw [List.length_map,<-Q9y.out.2.2.2.2.2] at h2;rw [Kt.out,h1,List.take_length];exact h2.symm
    subst hls;clear hge;have Q2k:=zz (Qim.out.no HK.out);have Qev:=zz (M7.out.Q0 HK.out)
    have Jc6:Z7 (Xg st u)<=1000000000:=by
     show Z7 st<=_
     have:=K7.out.many;omega
    have Qub:=zz (Iv Q2k.out (Y0.refl _) J3s.out (by omega) (by show st.keys.length<=_;have:=K7.out.keys;omega) Jc6 t1 t2 ht);have d0:wr.cell? ⟨tb,0,none⟩=some (.int .i64 t1):=Q4 (HK.out.get Qsa.out λx=>x) 0;have d1:wr.cell? ⟨tb,1,none⟩=some (.int .i64 t2):=Q4 (HK.out.get Qsa.out λx=>x) 1;have dl:=Q7 (HK.out.get Qsa.out λx=>x);simp only [Xl] at Qub;clear Jc6;go_wp2_with fail
    refine Qub.out.mono ?_;rintro e w9 ⟨rfl,k9⟩;have A5:=zz (Qev.out.Q0 k9);clear k9 Qub d0 d1 dl;have U3:=zz (Jv w9 (Dd.out.keep A5.out));go_wp2_with fail
    refine U3.out.mono ?_;rintro e wz ⟨rfl,kz⟩;have Lp:=zz (A5.out.Q0 kz);clear kz U3;go_wp2_with fail
    go_ret
    exact ⟨rfl,Lp.out⟩
end Go.Proofs.YtgnkmjeoaoongaaGreatDoor
