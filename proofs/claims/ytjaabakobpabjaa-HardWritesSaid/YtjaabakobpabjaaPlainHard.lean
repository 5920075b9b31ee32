/- Hard: the plain law: cores; what is written of one that is another one now; what records say. -/
import Derived.Test.YtjaabakobpabjaaGwJ
import Derived.Test.YtjaabakobpabjaaCalm
import Derived.Test.YtjaabakobpabjaaLogJ
namespace Go.Proofs.Ytjaabakobpabjaa

/-- A core. -/
structure Co where
  id : Int
  role : Int
  tm : Int
  vt : Int
  ld : Int
  wt : Int
  cm : Int
  sf : Int
  l : Lg
  sn : ByteArray
  vs : Int
  hd : Int
  nx : Nat → Int
  mt : Nat → Int
def lg0 : Lg := ⟨0, 0, jn0, []⟩
def co0 : Co := ⟨0, 0, 0, 0, 0, 0, 0, 0, lg0, ⟨#[]⟩, 0, 0, fun _ => 0, fun _ => 0⟩
def joX (j : Jn) : JoX := ⟨⟨j.ov, j.ox, j.ol, j.oe, j.ok⟩, ⟨j.nv, j.nx, j.nl, j.ne, j.nk⟩, j.two⟩
/-- A record: a letter, numbers. -/
def recB (c : Int) (l : List Int) : List Int := c :: l.flatMap encN
def entB (r i : Int) (e : Ent) : List Int := recB 69 [r, i, e.t, e.k] ++ encT e.d ++ (if e.k = 2 then encJo (joX e.j) else [])
def entsB (r : Int) : Int → List Ent → List (List Int)
  | _, [] => []
  | i, e :: es => entB r i e :: entsB r (i + 1) es
/-- How many entries stand in another log at the same numbers. -/
def preN (a : Lg) : Int → List Ent → Nat
  | _, [] => 0
  | i, e :: es => if atL a (i + 1) = (e, true) then preN a (i + 1) es + 1 else 0
def snapB (o n : Co) : Bool := decide (n.l.b ≠ o.l.b) || decide (n.l.bt ≠ o.l.bt) || decide (n.l.j ≠ o.l.j) || decide (n.sn ≠ o.sn)
def hardB (o n : Co) : Bool := decide (n.tm ≠ o.tm) || decide (n.vt ≠ o.vt)
/-- The elder log, if it goes on. -/
def wasL (o n : Co) : Lg := if snapB o n = true ∧ termL o.l n.l.b ≠ (n.l.bt, true) then ⟨n.l.b, 0, jn0, []⟩ else o.l
def cutB (o n : Co) : Bool := decide (n.l.b + preN (wasL o n) n.l.b n.l.es < (wasL o n).last)
def diffB (r : Int) (o n : Co) : List (List Int) :=
  (if hardB o n = true then [recB 72 [r, n.tm, n.vt]] else []) ++
  (if snapB o n = true then [recB 83 [r, n.l.b, n.l.bt] ++ encJo (joX n.l.j) ++ encT n.sn] else []) ++
  (if cutB o n = true then [recB 88 [r, n.l.b + preN (wasL o n) n.l.b n.l.es]] else []) ++
  entsB r (n.l.b + preN (wasL o n) n.l.b n.l.es + 1) (n.l.es.drop (preN (wasL o n) n.l.b n.l.es))
theorem preN_le (a : Lg) : ∀ (i : Int) (es : List Ent), preN a i es ≤ es.length
  | _, [] => Nat.le_refl _
  | i, e :: es => by
    unfold preN
    split
    · have := preN_le a (i + 1) es; simp only [List.length_cons]; omega
    · exact Nat.zero_le _
/-- Step by step: while the next one stands there. -/
theorem preN_at (a : Lg) : ∀ (i : Int) (es : List Ent) (k : Nat), (∀ j, (h : j < k) → ∃ h' : j < es.length, atL a (i + j + 1) = (es[j], true)) → (∀ h : k < es.length, atL a (i + k + 1) ≠ (es[k], true)) → k ≤ es.length → preN a i es = k
  | i, [], k, _, _, h => by simp at h; subst h; rfl
  | i, e :: es, 0, _, h, _ => by
    unfold preN
    rw [if_neg]
    have := h (by simp)
    simpa using this
  | i, e :: es, k + 1, h1, h2, h3 => by
    have h0 := h1 0 (Nat.zero_lt_succ _)
    obtain ⟨_, h0⟩ := h0
    unfold preN
    rw [if_pos (by simpa using h0), preN_at a (i + 1) es k (fun j hj => ?_) (fun h => ?_) (by simpa using h3)]
    · obtain ⟨h', hh⟩ := h1 (j + 1) (by omega)
      refine ⟨by simpa using h', ?_⟩
      rw [show i + 1 + (j : Int) + 1 = i + ((j + 1 : Nat) : Int) + 1 by omega]; simpa using hh
    · have := h2 (by simpa using h)
      rw [show i + 1 + (k : Int) + 1 = i + ((k + 1 : Nat) : Int) + 1 by omega]; simpa using this
end Go.Proofs.Ytjaabakobpabjaa
