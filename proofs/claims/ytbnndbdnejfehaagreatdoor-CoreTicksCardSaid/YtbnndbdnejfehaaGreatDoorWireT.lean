import Derived.Test.YtbnndbdnejfehaaGreatDoorPlainCore
import Derived.Test.YtbnndbdnejfehaaGreatDoorLogJ
import Derived.Test.YtbnndbdnejfehaaGreatDoorLogU
import Derived.Test.YtbnndbdnejfehaaGreatDoorLogP
import Derived.Test.YtbnndbdnejfehaaGreatDoorLogG
import Derived.Test.YtbnndbdnejfehaaGreatDoorGwJ
import Derived.Test.YtbnndbdnejfehaaGreatDoorTakeT
/- Core: the plain law: what a core does, and what it sends. -/
namespace Go.Proofs.YtbnndbdnejfehaaGreatDoor

/-- A message. -/
structure Ms where
  k : Int
  fr : Int
  dst : Int
  tm : Int
  ix : Int
  lt : Int
  cm : Int
  sf : Int
  yes : Bool
  es : List Ent
  sn : ByteArray
  cf : Jn
def ms0 : Ms := ⟨0, 0, 0, 0, 0, 0, 0, 0, false, [], ⟨#[]⟩, jn0⟩
/-- A core that does something, and what it sends. -/
structure Ac where
  c : Co
  out : List Ms
def upd (f : Nat → Int) (n : Nat) (v : Int) (i : Nat) : Int := if i = n then v else f i
def electsN (j : Jn) (g : Int) : Bool := electsJ j.ov j.ox j.ol j.oe j.ok j.nv j.nx j.nl j.ne j.nk j.two g
def commitsN (j : Jn) (g : Int) : Bool := commitsJ j.ov j.ox j.ol j.oe j.ok j.nv j.nx j.nl j.ne j.nk j.two g
def membersN (j : Jn) : Int := pickB j.two (bits .or .u16 (bits .or .u16 j.ov j.ox) j.ol) (bits .or .u16 (bits .or .u16 j.nv j.nx) j.nl)
def votingN (j : Jn) : Int := pickB j.two (bits .or .u16 j.ov j.ox) (bits .or .u16 j.nv j.nx)
def votersN (j : Jn) : Int := pickB j.two j.ov j.nv
def leadsN (j : Jn) (n : Int) : Bool := hasB (votersN j) n
def finalN (j : Jn) : Jn := if j.two then ⟨j.nv, j.nx, j.nl, j.ne, j.nk, 0, 0, 0, 0, 0, false⟩ else j
def dropS (s n : Int) : Int := bits .andNot .u16 s (oneB n)
def withS (s n : Int) : Int := bits .or .u16 s (oneB n)
def listS (s : Int) : List Int := lst s 9
/-- Sending. -/
def putM (c : Co) (to' : Int) (m : Ms) : Ms := { m with fr := c.id, dst := to', tm := c.tm }
def sendA (a : Ac) (to' : Int) (m : Ms) : Ac := ⟨a.c, a.out ++ [putM a.c to' m]⟩
def bringM (c : Co) (n : Nat) : Ms :=
  if c.l.b < c.nx n then { ms0 with k := 3, ix := c.nx n - 1, lt := (termL c.l (c.nx n - 1)).1, es := sliceL c.l (c.nx n) 8, cm := c.cm, sf := c.sf }
  else { ms0 with k := 5, ix := c.l.b, lt := c.l.bt, sn := c.sn, cf := c.l.j, cm := c.cm, sf := c.sf }
def bringA (a : Ac) (n : Int) : Ac := sendA a n (bringM a.c n.toNat)
def othersC (c : Co) : List Int := listS (dropS (membersN (confL c.l)) c.id)
def allA (a : Ac) : Ac := (othersC a.c).foldl bringA a
def yieldsC (c : Co) : Co := { c with role := 0, ld := 0, wt := 0 }
def pushC (c : Co) (e : Ent) : Co := { c with l := pushL c.l { e with t := c.tm }, mt := upd c.mt c.id.toNat (c.l.last + 1) }
/-- Who has the log up to a number. -/
def matchedF (mt : Nat → Int) (i : Int) : Nat → Int
  | 0 => 0
  | n + 1 => if i ≤ mt (n + 1) then withS (matchedF mt i n) ((n : Int) + 1) else matchedF mt i n
def matchedC (c : Co) (i : Int) : Int := matchedF c.mt i 9
def standL (l : Lg) : Int := (confA l l.es.length).2
/-- The greatest number above the least one that its own term has, and enough. -/
def scanC (c : Co) (lo : Int) : Nat → Int
  | 0 => c.cm
  | k + 1 => if (termL c.l (lo + k + 1)).1 = c.tm ∧ commitsN (confL c.l) (matchedC c (lo + k + 1)) = true then lo + k + 1 else scanC c lo k
def leastC (c : Co) : Int := (listS (votersN (confL c.l))).foldl (fun m n => min m (c.mt n.toNat)) c.l.last
def count1 (c : Co) : Co := { c with cm := scanC c (max c.cm c.l.b) (c.l.last - max c.cm c.l.b).toNat, sf := max c.sf (leastC c) }
def endC (c : Co) : Co := if c.cm < standL c.l then c else if leadsN (confL c.l) c.id = true then c else yieldsC c
def finE (c : Co) : Ent := { ent0 with k := 2, j := finalN (confL c.l) }
def countsC (c : Co) : Co :=
  if (count1 c).cm < standL c.l then count1 c
  else if (confL c.l).two = true then endC (count1 (pushC (count1 c) (finE c)))
  else endC (count1 c)
def leadC (c : Co) : Co := { c with role := 2, ld := c.id, wt := 0, hd := 0, nx := fun _ => c.l.last + 1, mt := fun _ => 0 }
def winsA (a : Ac) : Ac := allA ⟨countsC (pushC (leadC a.c) ent0), a.out⟩
def candC (c : Co) : Co := { c with tm := c.tm + 1, role := 1, vt := c.id, vs := withS 0 c.id, ld := 0, wt := 0 }
def askM (c : Co) : Ms := { ms0 with k := 1, ix := c.l.last, lt := lastTerm c.l, cm := c.cm }
def standsA (a : Ac) : Ac :=
  if electsN (confL a.c.l) (candC a.c).vs = true then winsA ⟨candC a.c, a.out⟩
  else (listS (dropS (votingN (confL a.c.l)) a.c.id)).foldl (fun b n => sendA b n (askM b.c)) ⟨candC a.c, a.out⟩
def patience (id : Int) : Int := 12 + 4 * id
def looksC (c : Co) : Co := if commitsN (confL c.l) (withS c.hd c.id) = true then { c with hd := 0, wt := 0 } else yieldsC c
def onLook (a : Ac) : Ac := if a.c.wt = 10 then ⟨looksC a.c, a.out⟩ else a
def tickA (c : Co) : Ac :=
  if c.role = 2 then onLook (if (c.wt + 1).emod 2 = 0 then allA ⟨{ c with wt := c.wt + 1 }, []⟩ else ⟨{ c with wt := c.wt + 1 }, []⟩)
  else if leadsN (confL c.l) c.id = true ∧ patience c.id ≤ c.wt + 1 ∧ c.tm < 1099511627776 then standsA ⟨{ c with wt := c.wt + 1 }, []⟩
  else ⟨{ c with wt := c.wt + 1 }, []⟩
def clampI (n : Int) : Int := min (max n 0) 1099511627776
def clampM (m : Ms) : Ms := { m with ix := clampI m.ix, cm := clampI m.cm, sf := clampI m.sf }
def riseC (c : Co) (m : Ms) : Co := if c.tm < m.tm then { c with wt := if c.role = 2 then 0 else c.wt, tm := m.tm, vt := 0, ld := 0, role := 0 } else c
def lateA (a : Ac) (m : Ms) : Ac := if m.k = 1 then sendA a m.fr { ms0 with k := 2 } else if m.k = 3 ∨ m.k = 5 then sendA a m.fr { ms0 with k := 4 } else a
def lendAt (c : Co) (m : Ms) : Int := if termL c.l m.ix = (m.lt, true) then m.ix else c.l.b
def lendM (c : Co) (m : Ms) : Ms := { ms0 with k := 6, ix := lendAt c m, lt := (termL c.l (lendAt c m)).1, es := sliceL c.l (lendAt c m + 1) c.l.es.length }
def yesC (c : Co) (m : Ms) : Bool := newerL c.l m.ix m.lt && decide (c.role = 0) && (decide (c.vt = 0) || decide (c.vt = m.fr))
def askedA (a : Ac) (m : Ms) : Ac :=
  let b : Ac := sendA ⟨if yesC a.c m = true then { a.c with vt := m.fr, wt := 0 } else a.c, a.out⟩ m.fr { ms0 with k := 2, yes := yesC a.c m }
  if newerL a.c.l m.ix m.lt = true then b else sendA b m.fr (lendM b.c m)
/-- May a message's entries be taken? -/
def takesB (c : Co) (m : Ms) : Bool := m.es.all (fun e => decide (e.t ≤ c.tm)) && m.es.all enM && (!(mergeL c.l m.ix m.lt m.es).2.2 || (mayL (mergeL c.l m.ix m.lt m.es).1 && decide ((mergeL c.l m.ix m.lt m.es).1.es.length ≤ 4096)))
def lentA (a : Ac) (m : Ms) : Ac :=
  if takesB a.c m = true ∧ (mergeL a.c.l m.ix m.lt m.es).2.2 = true ∧ newerL a.c.l (mergeL a.c.l m.ix m.lt m.es).1.last (lastTerm (mergeL a.c.l m.ix m.lt m.es).1) = true then
    ⟨{ a.c with l := (mergeL a.c.l m.ix m.lt m.es).1, cm := min a.c.cm (mergeL a.c.l m.ix m.lt m.es).1.last }, a.out⟩
  else a
def followC (c : Co) (m : Ms) : Co := { c with role := 0, ld := m.fr, wt := 0 }
def appendsA (a : Ac) (m : Ms) : Ac :=
  if takesB a.c m = true then
    if (mergeL a.c.l m.ix m.lt m.es).2.2 = true then
      sendA ⟨{ followC a.c m with l := (mergeL a.c.l m.ix m.lt m.es).1, cm := min (max a.c.cm (min m.cm (mergeL a.c.l m.ix m.lt m.es).2.1)) (mergeL a.c.l m.ix m.lt m.es).1.last, sf := max a.c.sf m.sf }, a.out⟩ m.fr { ms0 with k := 4, yes := true, ix := (mergeL a.c.l m.ix m.lt m.es).2.1 }
    else sendA ⟨followC a.c m, a.out⟩ m.fr { ms0 with k := 4, ix := max (min (m.ix - 1) a.c.l.last) 0 }
  else a
def snapLg (c : Co) (m : Ms) : Lg := if termL c.l m.ix = (m.lt, true) then { (compactL c.l m.ix).1 with j := m.cf } else ⟨m.ix, m.lt, m.cf, []⟩
def snapA (a : Ac) (m : Ms) : Ac :=
  if jnM m.cf = true ∧ m.lt ≤ a.c.tm ∧ 0 ≤ m.lt then
    if m.ix ≤ a.c.cm then sendA ⟨{ followC a.c m with sf := max a.c.sf m.sf }, a.out⟩ m.fr { ms0 with k := 4, yes := true, ix := a.c.cm }
    else sendA ⟨{ followC a.c m with sf := max a.c.sf m.sf, l := snapLg a.c m, sn := m.sn, cm := m.ix }, a.out⟩ m.fr { ms0 with k := 4, yes := true, ix := m.ix }
  else a
def ackedA (a : Ac) (m : Ms) : Ac :=
  if m.yes = true then
    let c1 : Co := { a.c with hd := withS a.c.hd m.fr, mt := upd a.c.mt m.fr.toNat (max (a.c.mt m.fr.toNat) (min m.ix a.c.l.last)), nx := upd a.c.nx m.fr.toNat (max (a.c.mt m.fr.toNat) (min m.ix a.c.l.last) + 1) }
    let c2 := countsC c1
    if c2.role = 2 ∧ c2.nx m.fr.toNat ≤ c2.l.last then bringA ⟨c2, a.out⟩ m.fr else ⟨c2, a.out⟩
  else bringA ⟨{ a.c with hd := withS a.c.hd m.fr, nx := upd a.c.nx m.fr.toNat (max (min (m.ix + 1) (a.c.l.last + 1)) (a.c.mt m.fr.toNat + 1)) }, a.out⟩ m.fr
def voteA (a : Ac) (m : Ms) : Ac :=
  if a.c.role = 1 ∧ m.yes = true then
    if electsN (confL a.c.l) (withS a.c.vs m.fr) = true then winsA ⟨{ a.c with vs := withS a.c.vs m.fr }, a.out⟩ else ⟨{ a.c with vs := withS a.c.vs m.fr }, a.out⟩
  else a
open Classical in
def restartC (c : Co) : Co := { co0 with id := c.id, tm := c.tm, vt := c.vt, cm := c.l.b, l := c.l, sn := c.sn }
end Go.Proofs.YtbnndbdnejfehaaGreatDoor
/- Wire: what was written is read: a command without spans and writes. -/
namespace Go.Proofs.YtbnndbdnejfehaaGreatDoor
open Go.ChangeShapes Go.WideShapes Go.ChangeAt Go.RowKit

theorem zag_zig {v : Int} (_h : In64 v) : zagI (zigI v) = v := by
  unfold zagI zigI
  split <;> split <;> omega
theorem rdNw_enc {v : Int} (h : In64 v) (r : List Int) : rdNw (encN v ++ r) false = (v, r, false) := by
  have f := zigI_fit h
  unfold rdNw encN
  rw [takeV_var _ (by omega) r]
  simp only [Int.toNat_natCast, List.drop_left, Int.toNat_of_nonneg f.1, zag_zig h]
  simp
theorem rdFw_enc (b : Bool) (r : List Int) : rdFw (encF b ++ r) false = (b, r, false) := by
  cases b <;> rfl
end Go.Proofs.YtbnndbdnejfehaaGreatDoor
