import Derived.Test.YtjaabakobpabjaaGwJ
import Derived.Test.YtjaabakobpabjaaCalm
import Derived.Test.YtjaabakobpabjaaLogJ
import Derived.Test.YtjaabakobpabjaaOpenLog
import Derived.OpenShut
import Derived.Test.YtjaabakobpabjaaGwD
import Derived.Test.YtjaabakobpabjaaGwA
import Derived.Test.YtjaabakobpabjaaStampTk
import Derived.Test.YtjaabakobpabjaaLogD
import Derived.Test.YtjaabakobpabjaaNums
import Derived.Deep.RegionHeld3
/- Hard: the plain law: cores; what is written of one that is another one now; what records say. -/
namespace Go.Proofs.Ytjaabakobpabjaa

/-- A core. -/
structure Co where
  id : Int
  role : Int
  tm : Int
  vt : Int
  ld : Int
  wt : Int
  cm : Int
  sf : Int
  l : Lg
  sn : ByteArray
  vs : Int
  hd : Int
  nx : Nat → Int
  mt : Nat → Int
def lg0 : Lg := ⟨0, 0, jn0, []⟩
def co0 : Co := ⟨0, 0, 0, 0, 0, 0, 0, 0, lg0, ⟨#[]⟩, 0, 0, fun _ => 0, fun _ => 0⟩
def joX (j : Jn) : JoX := ⟨⟨j.ov, j.ox, j.ol, j.oe, j.ok⟩, ⟨j.nv, j.nx, j.nl, j.ne, j.nk⟩, j.two⟩
/-- A record: a letter, numbers. -/
def recB (c : Int) (l : List Int) : List Int := c :: l.flatMap encN
def entB (r i : Int) (e : Ent) : List Int := recB 69 [r, i, e.t, e.k] ++ encT e.d ++ (if e.k = 2 then encJo (joX e.j) else [])
def entsB (r : Int) : Int → List Ent → List (List Int)
  | _, [] => []
  | i, e :: es => entB r i e :: entsB r (i + 1) es
/-- How many entries stand in another log at the same numbers. -/
def preN (a : Lg) : Int → List Ent → Nat
  | _, [] => 0
  | i, e :: es => if atL a (i + 1) = (e, true) then preN a (i + 1) es + 1 else 0
def snapB (o n : Co) : Bool := decide (n.l.b ≠ o.l.b) || decide (n.l.bt ≠ o.l.bt) || decide (n.l.j ≠ o.l.j) || decide (n.sn ≠ o.sn)
def hardB (o n : Co) : Bool := decide (n.tm ≠ o.tm) || decide (n.vt ≠ o.vt)
/-- The elder log, if it goes on. -/
def wasL (o n : Co) : Lg := if snapB o n = true ∧ termL o.l n.l.b ≠ (n.l.bt, true) then ⟨n.l.b, 0, jn0, []⟩ else o.l
def cutB (o n : Co) : Bool := decide (n.l.b + preN (wasL o n) n.l.b n.l.es < (wasL o n).last)
def diffB (r : Int) (o n : Co) : List (List Int) :=
  (if hardB o n = true then [recB 72 [r, n.tm, n.vt]] else []) ++
  (if snapB o n = true then [recB 83 [r, n.l.b, n.l.bt] ++ encJo (joX n.l.j) ++ encT n.sn] else []) ++
  (if cutB o n = true then [recB 88 [r, n.l.b + preN (wasL o n) n.l.b n.l.es]] else []) ++
  entsB r (n.l.b + preN (wasL o n) n.l.b n.l.es + 1) (n.l.es.drop (preN (wasL o n) n.l.b n.l.es))
theorem preN_le (a : Lg) : ∀ (i : Int) (es : List Ent), preN a i es ≤ es.length
  | _, [] => Nat.le_refl _
  | i, e :: es => by
    unfold preN
    split
    · have := preN_le a (i + 1) es; simp only [List.length_cons]; omega
    · exact Nat.zero_le _
/-- Step by step: while the next one stands there. -/
theorem preN_at (a : Lg) : ∀ (i : Int) (es : List Ent) (k : Nat), (∀ j, (h : j < k) → ∃ h' : j < es.length, atL a (i + j + 1) = (es[j], true)) → (∀ h : k < es.length, atL a (i + k + 1) ≠ (es[k], true)) → k ≤ es.length → preN a i es = k
  | i, [], k, _, _, h => by simp at h; subst h; rfl
  | i, e :: es, 0, _, h, _ => by
    unfold preN
    rw [if_neg]
    have := h (by simp)
    simpa using this
  | i, e :: es, k + 1, h1, h2, h3 => by
    have h0 := h1 0 (Nat.zero_lt_succ _)
    obtain ⟨_, h0⟩ := h0
    unfold preN
    rw [if_pos (by simpa using h0), preN_at a (i + 1) es k (fun j hj => ?_) (fun h => ?_) (by simpa using h3)]
    · obtain ⟨h', hh⟩ := h1 (j + 1) (by omega)
      refine ⟨by simpa using h', ?_⟩
      rw [show i + 1 + (j : Int) + 1 = i + ((j + 1 : Nat) : Int) + 1 by omega]; simpa using hh
    · have := h2 (by simpa using h)
      rw [show i + 1 + (k : Int) + 1 = i + ((k + 1 : Nat) : Int) + 1 by omega]; simpa using this
end Go.Proofs.Ytjaabakobpabjaa
/- An argument that is a core, a joint, a list of entries: what it is, with the bounds of its numbers. -/
namespace Go.Proofs.Ytjaabakobpabjaa
open Go.ChangeShapes Go.WideShapes Go.ChangeAt Go.RowKit Go.Deep

/-- What a value of the type Entry, Log, Core is at any rate. -/
structure EnV (e : Ent) : Prop where
  t : In64 e.t
  k : In64 e.k
  j : JoF (joX e.j)
  d : e.d.size ≤ 9223372036854775807
structure LgV (l : Lg) : Prop where
  b : In64 l.b
  bt : In64 l.bt
  j : JoF (joX l.j)
  es : ∀ e ∈ l.es, EnV e
structure CoV (c : Co) : Prop where
  id : In64 c.id
  role : In64 c.role
  tm : In64 c.tm
  vt : In64 c.vt
  ld : In64 c.ld
  wt : In64 c.wt
  cm : In64 c.cm
  sf : In64 c.sf
  l : LgV c.l
  sn : c.sn.size ≤ 9223372036854775807
  vs : In16 c.vs
  hd : In16 c.hd
  nx : ∀ i, i < 10 → In64 (c.nx i)
  mt : ∀ i, i < 10 → In64 (c.mt i)
section
variable {H : Type} {enc : TypeId × Value → H} {w : World}
theorem wf_64C {n : Int} (h : (Lit.int .i64 n).wf = true) : In64 n := wf_i64 h
theorem wf_16C {n : Int} (h : (Lit.int .u16 n).wf = true) : In16 n := by
  have h1 : IntKind.u16.min = 0 := rfl
  have h2 : IntKind.u16.max = 65535 := rfl
  simp only [Lit.wf, Bool.and_eq_true, decide_eq_true_eq] at h
  unfold In16; omega
set_option maxRecDepth 100000 in
theorem cells_cfC {fuel : Nat} {cs : List Value} {x : DataW H × List MemPlace} (h : DataW.trod enc Try.prog w 0 (fun _ => true) true fuel 40 cs = some x) :
    ∃ s : CfX, cs = [.int .u16 s.v, .int .u16 s.x, .int .u16 s.l, .int .i64 s.e, .int .i64 s.k] ∧ CfF s := by
  obtain ⟨xs, n, _, _, hsz, hlen, hf⟩ := DataW.trod_struct Try.underlying40 h
  obtain ⟨y0, e0⟩ := some_of_lengthL hlen (i := 0) (by decide)
  obtain ⟨y1, e1⟩ := some_of_lengthL hlen (i := 1) (by decide)
  obtain ⟨y2, e2⟩ := some_of_lengthL hlen (i := 2) (by decide)
  obtain ⟨y3, e3⟩ := some_of_lengthL hlen (i := 3) (by decide)
  obtain ⟨y4, e4⟩ := some_of_lengthL hlen (i := 4) (by decide)
  obtain ⟨n0, c0, w0⟩ := leaf_intL Try.underlying38 ((hf 0 _ rfl).trans e0)
  obtain ⟨n1, c1, w1⟩ := leaf_intL Try.underlying38 ((hf 1 _ rfl).trans e1)
  obtain ⟨n2, c2, w2⟩ := leaf_intL Try.underlying38 ((hf 2 _ rfl).trans e2)
  obtain ⟨n3, c3, w3⟩ := leaf_intL Try.underlying3 ((hf 3 _ rfl).trans e3)
  obtain ⟨n4, c4, w4⟩ := leaf_intL Try.underlying3 ((hf 4 _ rfl).trans e4)
  have hsz' : cs.length = 5 := hsz.trans (by kernel_rfl)
  match cs, hsz' with
  | [x0, x1, x2, x3, x4], _ =>
    refine ⟨⟨n0, n1, n2, n3, n4⟩, ?_, wf_16C w0, wf_16C w1, wf_16C w2, wf_64C w3, wf_64C w4⟩
    change some x0 = _ at c0; change some x1 = _ at c1; change some x2 = _ at c2; change some x3 = _ at c3; change some x4 = _ at c4
    simp only [Option.some.injEq] at c0 c1 c2 c3 c4
    rw [c0, c1, c2, c3, c4]
set_option maxRecDepth 100000 in
theorem cells_jnC {fuel : Nat} {cs : List Value} {x : DataW H × List MemPlace} (h : DataW.trod enc Try.prog w 0 (fun _ => true) true fuel 42 cs = some x) :
    ∃ j : Jn, cs = [.int .u16 j.ov, .int .u16 j.ox, .int .u16 j.ol, .int .i64 j.oe, .int .i64 j.ok, .int .u16 j.nv, .int .u16 j.nx, .int .u16 j.nl, .int .i64 j.ne, .int .i64 j.nk, .bool j.two] ∧ JoF (joX j) := by
  obtain ⟨xs, n, _, _, hsz, hlen, hf⟩ := DataW.trod_struct Try.underlying42 h
  obtain ⟨y0, e0⟩ := some_of_lengthL hlen (i := 0) (by decide)
  obtain ⟨y1, e1⟩ := some_of_lengthL hlen (i := 1) (by decide)
  obtain ⟨y2, e2⟩ := some_of_lengthL hlen (i := 2) (by decide)
  obtain ⟨a, g0, w0⟩ := cells_cfC ((hf 0 _ rfl).trans e0)
  obtain ⟨b, g5, w5⟩ := cells_cfC ((hf 1 _ rfl).trans e1)
  obtain ⟨t, c10⟩ := leaf_boolL Try.underlying4 ((hf 2 _ rfl).trans e2)
  have hsz' : cs.length = 11 := hsz.trans (by kernel_rfl)
  match cs, hsz' with
  | [x0, x1, x2, x3, x4, x5, x6, x7, x8, x9, x10], _ =>
    refine ⟨⟨a.v, a.x, a.l, a.e, a.k, b.v, b.x, b.l, b.e, b.k, t⟩, ?_, w0, w5⟩
    change [x0, x1, x2, x3, x4] = _ at g0
    change [x5, x6, x7, x8, x9] = _ at g5
    change some x10 = _ at c10
    simp only [Option.some.injEq] at c10
    simp only [List.cons.injEq, and_true] at g0 g5
    obtain ⟨h0, h1, h2, h3, h4⟩ := g0
    obtain ⟨h5, h6, h7, h8, h9⟩ := g5
    rw [h0, h1, h2, h3, h4, h5, h6, h7, h8, h9, c10]
end
end Go.Proofs.Ytjaabakobpabjaa
/- Wire: what was written is read: a command without spans and writes. -/
namespace Go.Proofs.Ytjaabakobpabjaa
open Go.ChangeShapes Go.WideShapes Go.ChangeAt Go.RowKit

theorem zag_zig {v : Int} (_h : In64 v) : zagI (zigI v) = v := by
  unfold zagI zigI
  split <;> split <;> omega
theorem rdNw_enc {v : Int} (h : In64 v) (r : List Int) : rdNw (encN v ++ r) false = (v, r, false) := by
  have f := zigI_fit h
  unfold rdNw encN
  rw [takeV_var _ (by omega) r]
  simp only [Int.toNat_natCast, List.drop_left, Int.toNat_of_nonneg f.1, zag_zig h]
  simp
theorem encN_oct (v : Int) : ∀ x ∈ encN v, 0 ≤ x ∧ x ≤ 255 := varN_bd _
theorem rdFw_enc (b : Bool) (r : List Int) : rdFw (encF b ++ r) false = (b, r, false) := by
  cases b <;> rfl
end Go.Proofs.Ytjaabakobpabjaa
/- Wire: are two commands the same? The reference's. -/
namespace Go.Proofs.Ytjaabakobpabjaa
open Go.ChangeShapes Go.WideShapes Go.ChangeAt Go.RowKit

/-- Not too great. -/
structure CmL (c : CmX) : Prop where
  f : CmF c
  l : ((encCm c).length : Int) ≤ 140737488300000
  s : c.sp.length ≤ 1000000
  r : c.wr.length ≤ 1000000
end Go.Proofs.Ytjaabakobpabjaa
