import Derived.Test.YtbnndbdnejfehaaGreatDoorPlainCompactW
/- Logs: the plain law of EntriesMerge: what a merge tells, told of what it is. -/
namespace Go.Proofs.YtbnndbdnejfehaaGreatDoor

/-- Do the terms agree, of the first k of the entries? -/
def smB (l : Lg) (P : Int) (es : List Ent) : Nat → Bool
  | 0 => true
  | k + 1 => smB l P es k && ((termL l (P + 1 + k)).2 && decide ((termL l (P + 1 + k)).1 = (es.getD k ent0).t))
/-- What follows of a merge, at a base of nothing. -/
structure MergeSays (l : Lg) (P term : Int) (es : List Ent) (m : Lg) (last : Int) (ok : Bool) : Prop where
  no : ok = false → (termL l P).2 = false ∨ (termL l P).1 ≠ term
  last' : ok = true → last = P + es.length
  again : ok = true → mergeL m P term es = (m, last, true)
  most : ok = true → last ≤ m.last
  has : ok = true → ∀ k : Nat, k < es.length → (atL m (P + 1 + k)).1.t = (es.getD k ent0).t
  same : ok = true → smB l P es es.length = true → m = l
  b : m.b = 0
  n : m.es.length ≤ l.es.length + es.length
end Go.Proofs.YtbnndbdnejfehaaGreatDoor
/- Logs: the plain law of the reference's Merge. -/
namespace Go.Proofs.YtbnndbdnejfehaaGreatDoor

end Go.Proofs.YtbnndbdnejfehaaGreatDoor
