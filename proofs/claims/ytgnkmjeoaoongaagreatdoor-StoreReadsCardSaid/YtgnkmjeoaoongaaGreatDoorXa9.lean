/-
  DiskCut, WLog.
-/
import Derived.Test.YtgnkmjeoaoongaaGreatDoorXa8
namespace Go.Proofs.YtgnkmjeoaoongaaGreatDoor
open Go.RowKit Go.Mer
def Qpt (s:Qu) (name:ByteArray) (n:Int):Int:=
 match Qo s.files name with
 |none=>7
 |some x=>if n<0\/(x.data.length:Int)<n then 1 else 0
def Qkl (l:Jo) (name:ByteArray) (n:Int):Jo:=
 match Qo l name with
 |some x=>Qt l name ⟨x.data.take n.toNat,min x.lasts n.toNat⟩
 |none=>l
def J7t (s:Qu) (name:ByteArray) (n:Int):Int×Qu:=five s [name] (Qpt s name n) (Qkl s.files name n)
structure J2 where
 Qn:List (List UInt8)
 Qk:List (Nat×Nat)
 synced:Nat
 dead:Bool
def Eh (P:ByteArray) (n:Nat):ByteArray:=⟨(Ms P.data.toList n).toArray⟩
def Q2p (P:ByteArray) (x:ByteArray):Bool:=(Qi8 P.data.toList x.data.toList).isSome
def J07 (P:ByteArray) (s:Qu) (Qk:List (Nat×Nat)) (x:ByteArray):Int×Qu:=
 match Qk.getLast? with
 |none=>J67 s x
 |some z=>if Eh P z.1=x then J7t s x (z.2:Int) else J67 s x
def st0:J2:=⟨[],[],0,false⟩
def J0 (P:ByteArray) (s:Qu) (st:J2):Int×Qu×J2:=
 if st.synced<st.Qn.length then
  match st.Qk.getLast? with
  |none=>(0,s,st)
  |some z=>((L8 s (Eh P z.1)).1,(L8 s (Eh P z.1)).2,if (L8 s (Eh P z.1)).1=0 then {st with synced:=st.Qn.length} else st)
 else (0,s,st)
def Xy (n:Nat) (p:List UInt8):List UInt8:=Jc (Ql n++p)
def Jr (st:J2):Bool:=match st.Qk.getLast? with|none=>true|some z=>decide (1024<=z.2)
def Oi (st:J2):Nat:=match st.Qk.getLast? with|none=>0|some z=>z.1
def bump (Qk:List (Nat×Nat)) (k:Nat):List (Nat×Nat):=match Qk.getLast? with|none=>[]|some z=>Qk.dropLast++[(z.1,z.2+k)]
def Zr (P:ByteArray) (s:Qu) (st:J2):Int×Qu×J2:=if Jr st=true/\st.Qk≠[] then J0 P s st else (0,s,st)
def toN (P:ByteArray) (st:J2):ByteArray:=Eh P (if Jr st=true then st.Qn.length+1 else Oi st)
def Vk (st:J2) (p:List UInt8):J2:=
 {st with
  Qn:=st.Qn++[p]
  Qk:=if Jr st=true then st.Qk++[(st.Qn.length+1,(Xy (st.Qn.length+1) p).length)] else bump st.Qk (Xy (st.Qn.length+1) p).length}
def Y8 (P:ByteArray) (s:Qu) (st:J2) (p:List UInt8):(Nat×Int)×Qu×J2:=
 if st.dead=true then ((0,9),s,st)
 else if 262134<p.length then ((0,5),s,st)
 else if (Zr P s st).1=0 then
  let q:=Lh (Zr P s st).2.1 (toN P st) (Xy (st.Qn.length+1) p)
  if q.1=0 then ((st.Qn.length+1,0),q.2,Vk (Zr P s st).2.2 p) else ((0,q.1),q.2,{(Zr P s st).2.2 with dead:=decide (q.1≠6)})
 else ((0,(Zr P s st).1),(Zr P s st).2.1,{(Zr P s st).2.2 with dead:=decide ((Zr P s st).1≠6)})
def Uq (P:ByteArray) (s:Qu) (st:J2):Int×Qu×J2:=
 if st.dead=true then (9,s,st) else ((J0 P s st).1,(J0 P s st).2.1,{(J0 P s st).2.2 with dead:=decide ((J0 P s st).1≠0)})
end Go.Proofs.YtgnkmjeoaoongaaGreatDoor
