/- A configuration, a zone, as data. -/
namespace Go.Proofs.Ytihkkoldjllifaa

structure Cfg where
  v : Int
  x : Int
  l : Int
  e : Int
  k : Int
structure Zn where
  v : List Int
  w : List Int
  l : List Int
  e : Int
  k : Int
  s : Int
end Go.Proofs.Ytihkkoldjllifaa
