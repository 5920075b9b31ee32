/- Wire: what a state's parts may be, and their bytes. -/
import Derived.Test.YtmhmlpfkdpjlaaaWireS
namespace Go.Proofs.Ytmhmlpfkdpjlaaa

structure VeF (x : VeX) : Prop where
  w : In64 x.w
  t : In64 x.t
  d : TxF x.d
structure OuF (x : OuX) : Prop where
  yn : In64 x.yn
  yl : In64 x.yl
  ys : In64 x.ys
  ya : In64 x.ya
  sw : In64 x.sw
  st : In64 x.st
structure CeF (x : CeX) : Prop where
  k : TxF x.k
  nvs : x.vs.length ≤ 9223372036854775807
  vs : ∀ v ∈ x.vs, VeF v
  yn : In64 x.yn
  yl : In64 x.yl
  ys : In64 x.ys
  ya : In64 x.ya
  hm : In64 x.hm
  sw : In64 x.sw
  st : In64 x.st
  ld : TxF x.ld
/-- A state, and where its cells' versions lie. -/
structure PaL where
  e : Int
  h : Int
  fw : Int
  ft : Int
  cl : Int
  lo : Int
  cs : List CeL
  rs : List OuX
  ds : List OuX
structure PaF (P : PaL) : Prop where
  e : In64 P.e
  h : In64 P.h
  fw : In64 P.fw
  ft : In64 P.ft
  cl : In64 P.cl
  lo : In64 P.lo
  cs : ∀ x ∈ P.cs, CeF x.1
  rs : ∀ x ∈ P.rs, OuF x
  ds : ∀ x ∈ P.ds, OuF x
  ncs : P.cs.length ≤ 9223372036854775807
  nrs : P.rs.length ≤ 9223372036854775807
  nds : P.ds.length ≤ 9223372036854775807
def PaL.x (P : PaL) : PaX := ⟨P.e, P.h, P.fw, P.ft, P.cl, P.lo, P.cs.map (·.1), P.rs, P.ds⟩
def encVe (x : VeX) : List Int := stampB x.w x.t ++ encF x.r ++ encT x.d
def encOu (x : OuX) : List Int := encY x.yn x.yl x.ys x.ya ++ stampB x.sw x.st ++ encF x.yes
def encLk (x : CeX) : List Int := encF x.lk ++ if x.lk then encY x.yn x.yl x.ys x.ya ++ encN x.hm ++ stampB x.sw x.st ++ encF x.lr ++ encT x.ld else []
def encCe (x : CeX) : List Int := encT x.k ++ encN x.vs.length ++ x.vs.flatMap encVe ++ encLk x
def encOus (l : List OuX) : List Int := encN l.length ++ l.flatMap encOu
def encPaHd (p : PaX) : List Int := [2] ++ encN p.e ++ encN p.h ++ stampB p.fw p.ft ++ encN p.cl ++ encN p.lo ++ encN p.cs.length
def encPa (p : PaX) : List Int := encPaHd p ++ p.cs.flatMap encCe ++ encOus p.rs ++ encOus p.ds
end Go.Proofs.Ytmhmlpfkdpjlaaa
