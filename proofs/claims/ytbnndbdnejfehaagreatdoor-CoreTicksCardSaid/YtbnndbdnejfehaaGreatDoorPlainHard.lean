/- Hard: the plain law: cores; what is written of one that is another one now; what records say. -/
import Derived.Test.YtbnndbdnejfehaaGreatDoorGwJ
import Derived.Test.YtbnndbdnejfehaaGreatDoorLogJ
namespace Go.Proofs.YtbnndbdnejfehaaGreatDoor

/-- A core. -/
structure Co where
  id : Int
  role : Int
  tm : Int
  vt : Int
  ld : Int
  wt : Int
  cm : Int
  sf : Int
  l : Lg
  sn : ByteArray
  vs : Int
  hd : Int
  nx : Nat → Int
  mt : Nat → Int
def lg0 : Lg := ⟨0, 0, jn0, []⟩
def co0 : Co := ⟨0, 0, 0, 0, 0, 0, 0, 0, lg0, ⟨#[]⟩, 0, 0, fun _ => 0, fun _ => 0⟩
def joX (j : Jn) : JoX := ⟨⟨j.ov, j.ox, j.ol, j.oe, j.ok⟩, ⟨j.nv, j.nx, j.nl, j.ne, j.nk⟩, j.two⟩
end Go.Proofs.YtbnndbdnejfehaaGreatDoor
