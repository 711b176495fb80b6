/- store -/
import Derived.Test.YtgnkmjeoaoongaaGreatDoorVe2
import Derived.Test.YtgnkmjeoaoongaaGreatDoorVd7
namespace Go.Proofs.YtgnkmjeoaoongaaGreatDoor
open Go.RowKit Go.Mer
section
variable {w0 w w':World} {p d s r x o B:Nat} {P:ByteArray} {st st' st2:Ja} {ds ds' ds2:Qz} {lg X9 Qe1:Jf} {H1 H2:Nat->Prop}
theorem Qoy.more {w:World} {x r o B B':Nat} {P:ByteArray} {st:Ja} {ds:Qz} {lg:Jf} {H:Nat->Prop} (h:Qoy w x r P o st ds lg B H) (hB:B<=B'):Qoy w x r P o st ds lg B' H:=by
 obtain ⟨y,la,lc,cs,ka,kc,K,F,G,h1,h2,h3,h4,h5⟩:=h;exact ⟨y,la,lc,cs,ka,kc,K,F,G,h1,λp hp=>Nat.le_trans (h2 p hp) hB,Nat.le_trans h3 hB,h4,h5⟩
theorem Qox.more {w:World} {s d o B B':Nat} {P:ByteArray} {st:Ja} {ds:Qz} {lg:Jf} {H:Nat->Prop} (h:Qox w s d P o st ds lg B H) (hB:B<=B'):Qox w s d P o st ds lg B' H:=by
 obtain ⟨l,m,cs,ka,kc,K,F,G,h1,h2,h3,h4,h5⟩:=h;exact ⟨l,m,cs,ka,kc,K,F,G,h1,λp hp=>Nat.le_trans (h2 p hp) hB,Nat.le_trans h3 hB,h4,h5⟩
theorem Qt.Jhv {l m:Nat} {cs:Zn} {ka:Option Addr} {kc:Nat} {K:List Qe} {F G:Nat->Prop} {B':Nat} (h:Qt w0 w p d s r x P o st ds lg st' ds' X9 B H1 H2) (h4: ∀k,Ve s m cs ka kc K k\/F k\/G k->H1 k) (hT:Q2z w s d l P (Zj P st.Zc) o m cs ka kc K F G B' st2 ds2 Qe1 w') (Q77:st2.Zc=st.Zc) (hB:B<=B'):
  ∃Hu,Qt w0 w' p d s r x P o st2 ds2 Qe1 st' ds' X9 B' Hu H2/\Je H1 Hu w/\Kp H1 w w':=by
 obtain ⟨cs',Ce,Cf,K',F',G',k1,k2,k3,k4,k5,k6,k7⟩:=hT;have Q3d:Kp H1 w w':=k5.mono λi _ hi=>h4 i hi
 have hf: ∀k,Ve s m cs' Ce Cf K' k\/F' k\/G' k->H1 k\/w.heap.size<=k:=by
  rintro k (hk|hk|hk)
  ·exact (k2 k hk).imp (λh=>h4 k (.inl h)) id
  ·exact (k3 k hk).imp (λh=>h4 k (.inr (.inl h))) id
  ·exact (k4 k hk).imp (λh=>h4 k (.inr (.inr h))) id
 have hl: ∀k,Ve s m cs' Ce Cf K' k\/F' k\/G' k->k<w'.heap.size:=by
  rintro k (hk|hk|hk)
  ·exact k1.st.lt k hk
  ·exact k1.at_.disk.lt k hk
  ·exact k1.at_.log.lt k hk
 have hs0:=h.kp.size;rw [<-Q77] at k1;refine ⟨_,⟨Q3d.get h.cell h.p1,⟨l,m,cs',Ce,Cf,K',F',G',k1,k6,k7,λ_ h=>h,hl⟩,(h.ref.keep Q3d λk h2 hh=>h.sep k hh h2).more hB,λk hk hh=>?_,λhh=>?_,h.p2,⟨h.new.1,λk hk=>?_,h.new.2.2⟩,h.kp.trans Q3d λi hi hh=>?_⟩,λk hk=>hf k hk,Q3d⟩
 ·rcases hf k hk with h6|h6
  ·exact h.sep k h6 hh
  ·have:=h.ref.lt k hh;omega
 ·rcases hf p hh with h6|h6
  ·exact h.p1 h6
  ·have:=Q7 h.cell;omega
 ·rcases hf k hk with h6|h6
  ·exact h.new.2.1 k h6
  ·omega
 ·have:=h.new.2.1 i hh;omega
theorem Qt.Jcw {y:Nat} {la:Option Addr} {lc:Nat} {cs:Zn} {ka:Option Addr} {kc:Nat} {K:List Qe} {F G:Nat->Prop} {B':Nat} (h:Qt w0 w p d s r x P o st ds lg st' ds' X9 B H1 H2) (h4: ∀k,Zg x la lc cs ka kc K k\/F k\/G k->H2 k) (hT:Q30 w x r y P (Zj P st'.Zc) o la lc cs ka kc K F G B' st2 ds2 Qe1 w') (Q77:st2.Zc=st'.Zc) (hB:B<=B'):
  ∃Q69,Qt w0 w' p d s r x P o st ds lg st2 ds2 Qe1 B' H1 Q69/\Je H2 Q69 w/\Kp H2 w w':=by
 obtain ⟨la',Qlz,cs',Ce,Cf,K',F',G',k1,k2,k3,k4,k5,k6,k7,_⟩:=hT;have Q3d:Kp H2 w w':=k5.mono λi _ hi=>h4 i hi
 have hf: ∀k,Zg x la' Qlz cs' Ce Cf K' k\/F' k\/G' k->H2 k\/w.heap.size<=k:=by
  rintro k (hk|hk|hk)
  ·exact (k2 k hk).imp (λh=>h4 k (.inl h)) id
  ·exact (k3 k hk).imp (λh=>h4 k (.inr (.inl h))) id
  ·exact (k4 k hk).imp (λh=>h4 k (.inr (.inr h))) id
 have hl: ∀k,Zg x la' Qlz cs' Ce Cf K' k\/F' k\/G' k->k<w'.heap.size:=by
  obtain ⟨Bx,Ku⟩:=Mr.lt' k1.at_;rintro k (hk|hk|hk)
  ·exact k1.st.lt k hk
  ·exact Bx k hk
  ·exact Ku k hk
 have hs0:=h.kp.size;rw [<-Q77] at k1;refine ⟨_,⟨Q3d.get h.cell h.p2,(h.prog.keep Q3d λk h2 hh=>h.sep k h2 hh).more hB,⟨y,la',Qlz,cs',Ce,Cf,K',F',G',k1,k6,k7,λ_ h=>h,hl⟩,λk hk hh=>?_,h.p1,λhh=>?_,⟨h.new.1,h.new.2.1,λk hk=>?_⟩,h.kp.trans Q3d λi hi hh=>?_⟩,λk hk=>hf k hk,Q3d⟩
 ·rcases hf k hh with h6|h6
  ·exact h.sep k hk h6
  ·have:=h.prog.lt k hk;omega
 ·rcases hf p hh with h6|h6
  ·exact h.p2 h6
  ·have:=Q7 h.cell;omega
 ·rcases hf k hk with h6|h6
  ·exact h.new.2.2 k h6
  ·omega
 ·have:=h.new.2.2 i hh;omega
theorem Q0o {w:World} {x r y o:Nat} {P:ByteArray} {st:Ja} {la ka:Option Addr} {lc kc:Nat} {cs:Zn} {K:List Qe} (h:Vo w x r y P o st la lc cs ka kc K):cs.length=st.keys.length:=by
 have:=congrArg List.length h.Vd;unfold Jp at this;rwa [List.length_map] at this
theorem Qt.Qx3 {k:Nat} (h:Qt w0 w p d s r x P o st ds lg st' ds' X9 B H1 H2) (hinv:Inv o st') (hh:Bu k P ds' st' X9) (hk:k<=3000) (hQ:(Zj P st'.Zc).size<=50)
  (a:Option Addr) (cap:Nat) (L:List Qe) (hL: ∀W,Kp H2 w W->Y1 W a L) (hc:L.length<=cap) (hcm:L.length<=1000000) (hB:B<=900000) (hkn:st'.keys.length<=B) (Q77:(J8 P o ds' st' X9 (L.map Qe.r)).2.2.1.Zc=st'.Zc):
  Calls Tryz.prog 21 #[.pointer (some ⟨x,0,none⟩), .slice a L.length cap] w λe w'=>e= .returned (.int .i64 (J8 P o ds' st' X9 (L.map Qe.r)).1)/\ ∃Q69,
   Qt w0 w' p d s r x P o st ds lg (J8 P o ds' st' X9 (L.map Qe.r)).2.2.1 (J8 P o ds' st' X9 (L.map Qe.r)).2.1 (J8 P o ds' st' X9 (L.map Qe.r)).2.2.2 (B+64) H1 Q69/\Je H2 Q69 w/\Kp H2 w w':=by
 obtain ⟨y,la,lc,cs,ka,kc,K,F,G,h1,h2,h3,h4,h5⟩:=h.ref;refine (Qcv h1 hinv rfl hh.fit (λhd=>(hh.whole hd).2) hk hQ (by have:=hh.n;omega) a cap L (λW hW=>hL W (hW.mono λi _ hi=>h4 i hi)) hc hcm B hB h2 h3 (by rw [Q0o h1.st];exact hkn)).mono ?_;rintro e w' ⟨rfl,hT⟩;exact ⟨rfl,h.Jcw h4 hT Q77 (by omega)⟩
end
section
variable {w0 w w':World} {p d s r x o B:Nat} {P:ByteArray} {st st':Ja} {ds ds':Qz} {lg X9:Jf} {H1 H2:Nat->Prop}
theorem Qt.keys (h:Qt w0 w p d s r x P o st ds lg st' ds' X9 B H1 H2) (hinv:Inv o st) (hB:B<=1000000) (hkn:st.keys.length<=1000000) (hm:Z7 st<=1000000000):
  Calls Tryz.prog 19 #[.pointer (some ⟨s,0,none⟩)] w λe w'=> ∃a c,e= .returned (.tuple #[.slice a (st.keys.map (·.1)).length c, .int .i64 (Z7 st:Int)])/\Rd w' w'.heap.size a ((st.keys.map (·.1)).map Value.string)/\Kp No w w':=by
 obtain ⟨l,m,cs,ka,kc,K,F,G,h1,h2,_⟩:=h.prog
 have hlen:cs.length=st.keys.length:=by
  have:=h1.st.perm.length_eq;unfold Jp at this;rwa [List.length_map] at this
 exact Qlp h1.st hinv (λp hp=>Nat.le_trans (h2 p hp) hB) (by omega) hm
theorem Qt.Zc (h:Qt w0 w p d s r x P o st ds lg st' ds' X9 B H1 H2):Calls Tryz.prog 20 #[.pointer (some ⟨s,0,none⟩)] w λe w'=>e= .returned (.tuple #[.int .i64 (st.Zc:Int), .int .i64 (st.n:Int)])/\Kp No w w':=by
 obtain ⟨l,m,cs,ka,kc,K,F,G,h1,h2,_⟩:=h.prog;exact Qp2 h1.st
end
end Go.Proofs.YtgnkmjeoaoongaaGreatDoor
