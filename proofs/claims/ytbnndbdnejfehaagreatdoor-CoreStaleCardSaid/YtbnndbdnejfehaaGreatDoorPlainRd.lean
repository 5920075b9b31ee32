import Derived.Test.YtbnndbdnejfehaaGreatDoorLogH
import Derived.Test.YtbnndbdnejfehaaGreatDoorPlainMayL
import Derived.Test.YtbnndbdnejfehaaGreatDoorLogG
import Derived.Test.YtbnndbdnejfehaaGreatDoorLogN0
import Derived.Test.YtbnndbdnejfehaaGreatDoorLogA
import Derived.Test.YtbnndbdnejfehaaGreatDoorWireC
import Derived.Deep.RegionHeld3
/- Core: the plain law: what a core does, and what it sends. -/
namespace Go.Proofs.YtbnndbdnejfehaaGreatDoor

/-- A message. -/
structure Ms where
  k : Int
  fr : Int
  dst : Int
  tm : Int
  ix : Int
  lt : Int
  cm : Int
  sf : Int
  yes : Bool
  es : List Ent
  sn : ByteArray
  cf : Jn
def ms0 : Ms := ⟨0, 0, 0, 0, 0, 0, 0, 0, false, [], ⟨#[]⟩, jn0⟩
/-- A core that does something, and what it sends. -/
structure Ac where
  c : Co
  out : List Ms
def upd (f : Nat → Int) (n : Nat) (v : Int) (i : Nat) : Int := if i = n then v else f i
def electsN (j : Jn) (g : Int) : Bool := electsJ j.ov j.ox j.ol j.oe j.ok j.nv j.nx j.nl j.ne j.nk j.two g
def commitsN (j : Jn) (g : Int) : Bool := commitsJ j.ov j.ox j.ol j.oe j.ok j.nv j.nx j.nl j.ne j.nk j.two g
def membersN (j : Jn) : Int := pickB j.two (bits .or .u16 (bits .or .u16 j.ov j.ox) j.ol) (bits .or .u16 (bits .or .u16 j.nv j.nx) j.nl)
def votingN (j : Jn) : Int := pickB j.two (bits .or .u16 j.ov j.ox) (bits .or .u16 j.nv j.nx)
def votersN (j : Jn) : Int := pickB j.two j.ov j.nv
def leadsN (j : Jn) (n : Int) : Bool := hasB (votersN j) n
def finalN (j : Jn) : Jn := if j.two then ⟨j.nv, j.nx, j.nl, j.ne, j.nk, 0, 0, 0, 0, 0, false⟩ else j
def dropS (s n : Int) : Int := bits .andNot .u16 s (oneB n)
def withS (s n : Int) : Int := bits .or .u16 s (oneB n)
def listS (s : Int) : List Int := lst s 9
/-- Sending. -/
def putM (c : Co) (to' : Int) (m : Ms) : Ms := { m with fr := c.id, dst := to', tm := c.tm }
def sendA (a : Ac) (to' : Int) (m : Ms) : Ac := ⟨a.c, a.out ++ [putM a.c to' m]⟩
def bringM (c : Co) (n : Nat) : Ms :=
  if c.l.b < c.nx n then { ms0 with k := 3, ix := c.nx n - 1, lt := (termL c.l (c.nx n - 1)).1, es := sliceL c.l (c.nx n) 8, cm := c.cm, sf := c.sf }
  else { ms0 with k := 5, ix := c.l.b, lt := c.l.bt, sn := c.sn, cf := c.l.j, cm := c.cm, sf := c.sf }
def bringA (a : Ac) (n : Int) : Ac := sendA a n (bringM a.c n.toNat)
def othersC (c : Co) : List Int := listS (dropS (membersN (confL c.l)) c.id)
def allA (a : Ac) : Ac := (othersC a.c).foldl bringA a
def yieldsC (c : Co) : Co := { c with role := 0, ld := 0, wt := 0 }
def pushC (c : Co) (e : Ent) : Co := { c with l := pushL c.l { e with t := c.tm }, mt := upd c.mt c.id.toNat (c.l.last + 1) }
/-- Who has the log up to a number. -/
def matchedF (mt : Nat → Int) (i : Int) : Nat → Int
  | 0 => 0
  | n + 1 => if i ≤ mt (n + 1) then withS (matchedF mt i n) ((n : Int) + 1) else matchedF mt i n
def matchedC (c : Co) (i : Int) : Int := matchedF c.mt i 9
def standL (l : Lg) : Int := (confA l l.es.length).2
/-- The greatest number above the least one that its own term has, and enough. -/
def scanC (c : Co) (lo : Int) : Nat → Int
  | 0 => c.cm
  | k + 1 => if (termL c.l (lo + k + 1)).1 = c.tm ∧ commitsN (confL c.l) (matchedC c (lo + k + 1)) = true then lo + k + 1 else scanC c lo k
def leastC (c : Co) : Int := (listS (votersN (confL c.l))).foldl (fun m n => min m (c.mt n.toNat)) c.l.last
def count1 (c : Co) : Co := { c with cm := scanC c (max c.cm c.l.b) (c.l.last - max c.cm c.l.b).toNat, sf := max c.sf (leastC c) }
def endC (c : Co) : Co := if c.cm < standL c.l then c else if leadsN (confL c.l) c.id = true then c else yieldsC c
def finE (c : Co) : Ent := { ent0 with k := 2, j := finalN (confL c.l) }
def countsC (c : Co) : Co :=
  if (count1 c).cm < standL c.l then count1 c
  else if (confL c.l).two = true then endC (count1 (pushC (count1 c) (finE c)))
  else endC (count1 c)
def leadC (c : Co) : Co := { c with role := 2, ld := c.id, wt := 0, hd := 0, nx := fun _ => c.l.last + 1, mt := fun _ => 0 }
def winsA (a : Ac) : Ac := allA ⟨countsC (pushC (leadC a.c) ent0), a.out⟩
def candC (c : Co) : Co := { c with tm := c.tm + 1, role := 1, vt := c.id, vs := withS 0 c.id, ld := 0, wt := 0 }
def askM (c : Co) : Ms := { ms0 with k := 1, ix := c.l.last, lt := lastTerm c.l, cm := c.cm }
def standsA (a : Ac) : Ac :=
  if electsN (confL a.c.l) (candC a.c).vs = true then winsA ⟨candC a.c, a.out⟩
  else (listS (dropS (votingN (confL a.c.l)) a.c.id)).foldl (fun b n => sendA b n (askM b.c)) ⟨candC a.c, a.out⟩
def patience (id : Int) : Int := 12 + 4 * id
def looksC (c : Co) : Co := if commitsN (confL c.l) (withS c.hd c.id) = true then { c with hd := 0, wt := 0 } else yieldsC c
def onLook (a : Ac) : Ac := if a.c.wt = 10 then ⟨looksC a.c, a.out⟩ else a
def tickA (c : Co) : Ac :=
  if c.role = 2 then onLook (if (c.wt + 1).emod 2 = 0 then allA ⟨{ c with wt := c.wt + 1 }, []⟩ else ⟨{ c with wt := c.wt + 1 }, []⟩)
  else if leadsN (confL c.l) c.id = true ∧ patience c.id ≤ c.wt + 1 ∧ c.tm < 1099511627776 then standsA ⟨{ c with wt := c.wt + 1 }, []⟩
  else ⟨{ c with wt := c.wt + 1 }, []⟩
def clampI (n : Int) : Int := min (max n 0) 1099511627776
def clampM (m : Ms) : Ms := { m with ix := clampI m.ix, cm := clampI m.cm, sf := clampI m.sf }
def riseC (c : Co) (m : Ms) : Co := if c.tm < m.tm then { c with wt := if c.role = 2 then 0 else c.wt, tm := m.tm, vt := 0, ld := 0, role := 0 } else c
def lateA (a : Ac) (m : Ms) : Ac := if m.k = 1 then sendA a m.fr { ms0 with k := 2 } else if m.k = 3 ∨ m.k = 5 then sendA a m.fr { ms0 with k := 4 } else a
def lendAt (c : Co) (m : Ms) : Int := if termL c.l m.ix = (m.lt, true) then m.ix else c.l.b
def lendM (c : Co) (m : Ms) : Ms := { ms0 with k := 6, ix := lendAt c m, lt := (termL c.l (lendAt c m)).1, es := sliceL c.l (lendAt c m + 1) c.l.es.length }
def yesC (c : Co) (m : Ms) : Bool := newerL c.l m.ix m.lt && decide (c.role = 0) && (decide (c.vt = 0) || decide (c.vt = m.fr))
def askedA (a : Ac) (m : Ms) : Ac :=
  let b : Ac := sendA ⟨if yesC a.c m = true then { a.c with vt := m.fr, wt := 0 } else a.c, a.out⟩ m.fr { ms0 with k := 2, yes := yesC a.c m }
  if newerL a.c.l m.ix m.lt = true then b else sendA b m.fr (lendM b.c m)
/-- May a message's entries be taken? -/
def takesB (c : Co) (m : Ms) : Bool := m.es.all (fun e => decide (e.t ≤ c.tm)) && m.es.all enM && (!(mergeL c.l m.ix m.lt m.es).2.2 || (mayL (mergeL c.l m.ix m.lt m.es).1 && decide ((mergeL c.l m.ix m.lt m.es).1.es.length ≤ 4096)))
def lentA (a : Ac) (m : Ms) : Ac :=
  if takesB a.c m = true ∧ (mergeL a.c.l m.ix m.lt m.es).2.2 = true ∧ newerL a.c.l (mergeL a.c.l m.ix m.lt m.es).1.last (lastTerm (mergeL a.c.l m.ix m.lt m.es).1) = true then
    ⟨{ a.c with l := (mergeL a.c.l m.ix m.lt m.es).1, cm := min a.c.cm (mergeL a.c.l m.ix m.lt m.es).1.last }, a.out⟩
  else a
def followC (c : Co) (m : Ms) : Co := { c with role := 0, ld := m.fr, wt := 0 }
def appendsA (a : Ac) (m : Ms) : Ac :=
  if takesB a.c m = true then
    if (mergeL a.c.l m.ix m.lt m.es).2.2 = true then
      sendA ⟨{ followC a.c m with l := (mergeL a.c.l m.ix m.lt m.es).1, cm := min (max a.c.cm (min m.cm (mergeL a.c.l m.ix m.lt m.es).2.1)) (mergeL a.c.l m.ix m.lt m.es).1.last, sf := max a.c.sf m.sf }, a.out⟩ m.fr { ms0 with k := 4, yes := true, ix := (mergeL a.c.l m.ix m.lt m.es).2.1 }
    else sendA ⟨followC a.c m, a.out⟩ m.fr { ms0 with k := 4, ix := max (min (m.ix - 1) a.c.l.last) 0 }
  else a
def snapLg (c : Co) (m : Ms) : Lg := if termL c.l m.ix = (m.lt, true) then { (compactL c.l m.ix).1 with j := m.cf } else ⟨m.ix, m.lt, m.cf, []⟩
def snapA (a : Ac) (m : Ms) : Ac :=
  if jnM m.cf = true ∧ m.lt ≤ a.c.tm ∧ 0 ≤ m.lt then
    if m.ix ≤ a.c.cm then sendA ⟨{ followC a.c m with sf := max a.c.sf m.sf }, a.out⟩ m.fr { ms0 with k := 4, yes := true, ix := a.c.cm }
    else sendA ⟨{ followC a.c m with sf := max a.c.sf m.sf, l := snapLg a.c m, sn := m.sn, cm := m.ix }, a.out⟩ m.fr { ms0 with k := 4, yes := true, ix := m.ix }
  else a
def ackedA (a : Ac) (m : Ms) : Ac :=
  if m.yes = true then
    let c1 : Co := { a.c with hd := withS a.c.hd m.fr, mt := upd a.c.mt m.fr.toNat (max (a.c.mt m.fr.toNat) (min m.ix a.c.l.last)), nx := upd a.c.nx m.fr.toNat (max (a.c.mt m.fr.toNat) (min m.ix a.c.l.last) + 1) }
    let c2 := countsC c1
    if c2.role = 2 ∧ c2.nx m.fr.toNat ≤ c2.l.last then bringA ⟨c2, a.out⟩ m.fr else ⟨c2, a.out⟩
  else bringA ⟨{ a.c with hd := withS a.c.hd m.fr, nx := upd a.c.nx m.fr.toNat (max (min (m.ix + 1) (a.c.l.last + 1)) (a.c.mt m.fr.toNat + 1)) }, a.out⟩ m.fr
def voteA (a : Ac) (m : Ms) : Ac :=
  if a.c.role = 1 ∧ m.yes = true then
    if electsN (confL a.c.l) (withS a.c.vs m.fr) = true then winsA ⟨{ a.c with vs := withS a.c.vs m.fr }, a.out⟩ else ⟨{ a.c with vs := withS a.c.vs m.fr }, a.out⟩
  else a
open Classical in
end Go.Proofs.YtbnndbdnejfehaaGreatDoor
/- Wire: what was written is read: a command without spans and writes. -/
namespace Go.Proofs.YtbnndbdnejfehaaGreatDoor
open Go.ChangeShapes Go.WideShapes Go.ChangeAt Go.RowKit

theorem zag_zig {v : Int} (_h : In64 v) : zagI (zigI v) = v := by
  unfold zagI zigI
  split <;> split <;> omega
theorem rdNw_enc {v : Int} (h : In64 v) (r : List Int) : rdNw (encN v ++ r) false = (v, r, false) := by
  have f := zigI_fit h
  unfold rdNw encN
  rw [takeV_var _ (by omega) r]
  simp only [Int.toNat_natCast, List.drop_left, Int.toNat_of_nonneg f.1, zag_zig h]
  simp
theorem rdFw_enc (b : Bool) (r : List Int) : rdFw (encF b ++ r) false = (b, r, false) := by
  cases b <;> rfl
end Go.Proofs.YtbnndbdnejfehaaGreatDoor
/- Wire: are two commands the same? The reference's. -/
namespace Go.Proofs.YtbnndbdnejfehaaGreatDoor
open Go.ChangeShapes Go.WideShapes Go.ChangeAt Go.RowKit

/-- Not too great. -/
structure CmL (c : CmX) : Prop where
  f : CmF c
  l : ((encCm c).length : Int) ≤ 140737488300000
  s : c.sp.length ≤ 1000000
  r : c.wr.length ≤ 1000000
end Go.Proofs.YtbnndbdnejfehaaGreatDoor
/- Wire: readers, the plain law: what reads is what was written, and what was written is read. -/
namespace Go.Proofs.YtbnndbdnejfehaaGreatDoor

def Oct (xs : List Int) : Prop := ∀ x ∈ xs, 0 ≤ x ∧ x ≤ 255
theorem Oct.drop {xs : List Int} (h : Oct xs) (n : Nat) : Oct (xs.drop n) := fun x hx => h x (List.mem_of_mem_drop hx)
theorem Oct.take {xs : List Int} (h : Oct xs) (n : Nat) : Oct (xs.take n) := fun x hx => h x (List.mem_of_mem_take hx)
theorem Oct.tail {x : Int} {xs : List Int} (h : Oct (x :: xs)) : Oct xs := fun y hy => h y (List.mem_cons_of_mem _ hy)
/-- What a number was read out of. -/
theorem takeGo_sound : ∀ (xs : List Int) (i : Nat) (a u r n : Int), Oct xs → i ≤ 9 → takeGo xs i a u = (r, n, 0) →
    ∃ v : Nat, xs = varN v ++ xs.drop (varN v).length ∧ r = a + v * u ∧ n = ((i + (varN v).length : Nat) : Int) ∧ (v = 0 → i = 0) ∧ v < 128 ^ (9 - i) * 2
  | [], i, a, u, r, n, _, _, h => by simp [takeGo] at h
  | c :: cs, i, a, u, r, n, ho, hi, h => by
    have hc := ho c (by simp)
    unfold takeGo at h
    by_cases h1 : i = 9 ∧ 1 < c
    · rw [if_pos h1] at h; simp at h
    rw [if_neg h1] at h
    by_cases h2 : 128 ≤ c
    · rw [if_pos h2] at h
      have hi8 : i ≤ 8 := by omega
      obtain ⟨v, e1, e2, e3, e4, e5⟩ := takeGo_sound cs (i + 1) _ _ r n ho.tail (by omega) h
      have hv0 : 0 < v := by
        rcases Nat.eq_zero_or_pos v with h0 | h0
        · have := e4 h0; omega
        · exact h0
      obtain ⟨k, hk⟩ : ∃ k : Nat, c = 128 + k ∧ k < 128 := ⟨(c - 128).toNat, by omega, by omega⟩
      obtain ⟨hk, hk2⟩ := hk
      have hstep : varN (v * 128 + k) = c :: varN v := by
        rw [varN_step _ (by omega), show (v * 128 + k) % 128 = k by omega, show (v * 128 + k) / 128 = v by omega]
        congr 1; omega
      refine ⟨v * 128 + k, ?_, ?_, ?_, by omega, ?_⟩
      · rw [hstep, List.length_cons, List.drop_succ_cons, List.cons_append, ← e1]
      · rw [e2, hk, show (128 + (k : Int)) % 128 = k by omega]
        push_cast
        rw [Int.add_mul, show (v : Int) * (u * 128) = (v : Int) * 128 * u by rw [Int.mul_assoc, Int.mul_comm 128 u]]
        omega
      · rw [e3, hstep, List.length_cons]; push_cast; omega
      · have : 128 ^ (9 - i) = 128 ^ (9 - (i + 1)) * 128 := by rw [← Nat.pow_succ]; congr 1; omega
        rw [this]; omega
    rw [if_neg h2] at h
    by_cases h3 : c = 0 ∧ 0 < i
    · rw [if_pos h3] at h; simp at h
    rw [if_neg h3] at h
    simp only [Prod.mk.injEq, and_true] at h
    obtain ⟨e1, e2⟩ := h
    obtain ⟨k, hk⟩ : ∃ k : Nat, c = k := ⟨c.toNat, by omega⟩
    subst hk
    have hs := varN_small k (by omega)
    refine ⟨k, by rw [hs]; simp, ?_, by rw [hs, ← e2]; simp, by omega, ?_⟩
    · rw [← e1, show (k : Int) % 128 = k by omega]
    · by_cases h9 : i = 9
      · subst h9; simp; omega
      · have : 128 ^ (9 - i) = 128 ^ (8 - i) * 128 := by rw [← Nat.pow_succ]; congr 1; omega
        have hp : 0 < 128 ^ (8 - i) := Nat.pow_pos (by omega)
        rw [this]; omega
theorem takeV_sound {xs : List Int} {r n : Int} (ho : Oct xs) (h : takeV xs = (r, n, 0)) : ∃ v : Nat, v ≤ 18446744073709551615 ∧ xs = varN v ++ xs.drop n.toNat ∧ r = v ∧ n = ((varN v).length : Int) := by
  obtain ⟨v, e1, e2, e3, _, e5⟩ := takeGo_sound xs 0 0 1 r n ho (by omega) h
  have : 128 ^ (9 - 0) * 2 = 18446744073709551616 := by decide
  refine ⟨v, by omega, ?_, by omega, by omega⟩
  rw [e3, show ((0 + (varN v).length : Nat) : Int).toNat = (varN v).length by omega]; exact e1
theorem zig_zag {u : Int} (h0 : 0 ≤ u) (h1 : u ≤ 18446744073709551615) : zigI (zagI u) = u ∧ In64 (zagI u) := by
  unfold zigI zagI In64
  split <;> split <;> (refine ⟨?_, ?_, ?_⟩ <;> omega)
theorem trip {α β γ : Type} {r : α × β × γ} {y : β} {z : γ} (h2 : r.2.1 = y) (h3 : r.2.2 = z) : r = (r.1, y, z) := by subst h2 h3; rfl
/-- A reader of what enc writes. -/
structure RdOk {α : Type} (f : List Int → Bool → α × List Int × Bool) (enc : α → List Int) (ok : α → Prop) : Prop where
  sound : ∀ xs a ys, Oct xs → f xs false = (a, ys, false) → ok a ∧ xs = enc a ++ ys
  compl : ∀ a r, ok a → f (enc a ++ r) false = (a, r, false)
  sticky : ∀ xs, (f xs true).2.2 = true
  oct : ∀ xs b, Oct xs → Oct (f xs b).2.1
theorem rdNw_ok : RdOk rdNw encN In64 where
  sound xs a ys ho h := by
    unfold rdNw at h
    simp only [Prod.mk.injEq, Bool.false_or, decide_eq_false_iff_not, ne_eq, Decidable.not_not] at h
    obtain ⟨h1, h2, h3⟩ := h
    obtain ⟨r, n, e⟩ : ∃ r n, takeV xs = (r, n, 0) := ⟨_, _, by rw [← h3]⟩
    obtain ⟨v, hv, e1, rfl, rfl⟩ := takeV_sound ho e
    rw [e] at h1 h2
    dsimp only at h1 h2
    have z := zig_zag (u := (v : Int)) (by omega) (by omega)
    rw [h1] at z
    refine ⟨z.2, ?_⟩
    unfold encN
    rw [z.1, Int.toNat_natCast, ← h2, Int.toNat_natCast]
    rw [Int.toNat_natCast] at e1; exact e1
  compl a r h := rdNw_enc h r
  sticky xs := by simp [rdNw]
  oct xs b ho := ho.drop _
theorem rdBw_ok : RdOk rdBw (fun x => [x]) (fun x => 0 ≤ x ∧ x ≤ 255) where
  sound xs a ys ho h := by
    cases xs with
    | nil => simp [rdBw] at h
    | cons x t =>
      simp only [rdBw, Prod.mk.injEq, and_true] at h
      obtain ⟨rfl, rfl⟩ := h
      exact ⟨ho _ (by simp), rfl⟩
  compl a r _ := rfl
  sticky xs := by cases xs <;> rfl
  oct xs b ho := by
    cases xs with
    | nil => exact ho
    | cons x t => exact ho.tail
theorem rdFw_ok : RdOk rdFw encF (fun _ => True) where
  sound xs a ys ho h := by
    unfold rdFw at h
    simp only [Prod.mk.injEq, Bool.or_eq_false_iff, decide_eq_false_iff_not] at h
    obtain ⟨h1, h2, h3, h4⟩ := h
    cases xs with
    | nil => simp [rdBw] at h3
    | cons x t =>
      simp only [rdBw] at h1 h2 h3 h4
      subst h2
      refine ⟨trivial, ?_⟩
      have hx := ho x (by simp)
      unfold encF
      by_cases e : x = 1
      · have ha : a = true := by rw [← h1, e]; rfl
        rw [ha, e]; rfl
      · have h0 : x = 0 := by omega
        have ha : a = false := by rw [← h1, h0]; rfl
        rw [ha, h0]; rfl
  compl a r _ := rdFw_enc a r
  sticky xs := by unfold rdFw; rw [rdBw_ok.sticky]; rfl
  oct xs b ho := rdBw_ok.oct xs b ho
theorem beVal_inj : ∀ {xs ys : List Int}, xs.length = ys.length → Oct xs → Oct ys → beVal xs = beVal ys → xs = ys
  | [], [], _, _, _, _ => rfl
  | [], _ :: _, h, _, _, _ => by simp at h
  | _ :: _, [], h, _, _, _ => by simp at h
  | a :: xs, b :: ys, h, ha, hb, e => by
    have hl : xs.length = ys.length := by simpa using h
    rw [beVal_cons, beVal_cons, ← hl] at e
    have b1 := beVal_bound xs.length xs rfl ha.tail
    have b2 := beVal_bound xs.length ys hl.symm hb.tail
    have a1 := ha a (by simp); have a2 := hb b (by simp)
    have hab : a = b := by
      rcases Int.lt_trichotomy a b with h | h | h
      · have : (a + 1) * 256 ^ xs.length ≤ b * 256 ^ xs.length := Int.mul_le_mul_of_nonneg_right (by omega) (by omega)
        rw [Int.add_mul] at this; omega
      · exact h
      · have : (b + 1) * 256 ^ xs.length ≤ a * 256 ^ xs.length := Int.mul_le_mul_of_nonneg_right (by omega) (by omega)
        rw [Int.add_mul] at this; omega
    subst hab
    rw [beVal_inj hl ha.tail hb.tail (by omega)]
theorem pre_val {l : List Int} {n : Nat} (hn : l.length = n) (ho : Oct l) : bePre (beVal l) n n = l := by
  have b := beVal_bound n l hn ho
  have e : (2 : Int) ^ (8 * n) = 256 ^ n := by rw [Int.pow_mul]; rfl
  refine beVal_inj (by rw [bePre_len, hn]) (bePre_bd _ _ _) ho ?_
  have := beVal_pre (beVal l) n n (Nat.le_refl _) b.1 (by rw [e]; exact b.2)
  simpa using this
/-- One behind the other. -/
def rd2 {α β : Type} (f : List Int → Bool → α × List Int × Bool) (g : List Int → Bool → β × List Int × Bool) (xs : List Int) (b : Bool) : (α × β) × List Int × Bool :=
  (((f xs b).1, (g (f xs b).2.1 (f xs b).2.2).1), (g (f xs b).2.1 (f xs b).2.2).2.1, (g (f xs b).2.1 (f xs b).2.2).2.2)
theorem rd2_ok {α β : Type} {f : List Int → Bool → α × List Int × Bool} {g : List Int → Bool → β × List Int × Bool} {e1 : α → List Int} {e2 : β → List Int} {k1 : α → Prop} {k2 : β → Prop} (hf : RdOk f e1 k1) (hg : RdOk g e2 k2) :
    RdOk (rd2 f g) (fun p => e1 p.1 ++ e2 p.2) (fun p => k1 p.1 ∧ k2 p.2) where
  sound xs p ys ho h := by
    obtain ⟨a, b⟩ := p
    unfold rd2 at h
    obtain ⟨⟨a', zs, b1⟩, hr⟩ : ∃ r, f xs false = r := ⟨_, rfl⟩
    rw [hr] at h
    simp only [Prod.mk.injEq] at h
    obtain ⟨⟨rfl, h1⟩, h2, h3⟩ := h
    have hb1 : b1 = false := by
      cases b1 with
      | false => rfl
      | true => rw [hg.sticky] at h3; cases h3
    subst hb1
    obtain ⟨o1, e1'⟩ := hf.sound xs _ _ ho hr
    have ho2 : Oct zs := by have := hf.oct xs false ho; rw [hr] at this; exact this
    obtain ⟨o2, e2'⟩ := hg.sound zs b ys ho2 (by rw [← h1]; exact trip h2 h3)
    refine ⟨⟨o1, o2⟩, ?_⟩
    show xs = (_ ++ _) ++ _
    rw [List.append_assoc, ← e2']; exact e1'
  compl p r h := by
    unfold rd2
    show _ = _
    rw [List.append_assoc, hf.compl p.1 _ h.1]
    simp only [hg.compl p.2 r h.2]
  sticky xs := by
    show (g _ _).2.2 = true
    rw [hf.sticky]; exact hg.sticky _
  oct xs b ho := hg.oct _ _ (hf.oct _ _ ho)
/-- What is read is told otherwise. -/
def rdMap {α β : Type} (f : List Int → Bool → α × List Int × Bool) (φ : α → β) (xs : List Int) (b : Bool) : β × List Int × Bool := (φ (f xs b).1, (f xs b).2.1, (f xs b).2.2)
theorem rdMap_ok {α β : Type} {f : List Int → Bool → α × List Int × Bool} {e : α → List Int} {k : α → Prop} {φ : α → β} {e' : β → List Int} {k' : β → Prop} (hf : RdOk f e k) (ψ : β → α) (h1 : ∀ b, φ (ψ b) = b) (he : ∀ a, e' (φ a) = e a) (hk : ∀ a, k' (φ a) ↔ k a) :
    RdOk (rdMap f φ) e' k' where
  sound xs b ys ho h := by
    unfold rdMap at h
    simp only [Prod.mk.injEq] at h
    obtain ⟨rfl, h2, h3⟩ := h
    obtain ⟨o, e1⟩ := hf.sound xs (f xs false).1 ys ho (trip h2 h3)
    exact ⟨(hk _).2 o, by rw [he]; exact e1⟩
  compl b r h := by
    unfold rdMap
    have e1 : e' b = e (ψ b) := by rw [← he, h1]
    have k1 : k (ψ b) := by rw [← hk, h1]; exact h
    rw [e1, hf.compl _ r k1, h1]
  sticky xs := hf.sticky xs
  oct xs b ho := hf.oct xs b ho
/-- A text. -/
def rdTw (xs : List Int) (bad : Bool) : ByteArray × List Int × Bool := (strOfNums (textR xs).1, xs.drop (textR xs).2.1.toNat, bad || decide ((textR xs).2.2 ≠ 0))
def TxV (s : ByteArray) : Prop := s.size ≤ 1048576
theorem txW_str {l : List Int} (h : Oct l) : txW (strOfNums l) = l := by
  unfold txW
  rw [strOfNums_data, List.map_map]
  conv => rhs; rw [← List.map_id l]
  refine List.map_congr_left fun x hx => ?_
  have := h x hx
  simp only [Function.comp, id]
  rw [UInt8.toNat_ofNat']
  omega
theorem str_txW (s : ByteArray) : strOfNums (txW s) = s := txW_inj (txW_str (txW_oct s))
theorem rdTw_ok : RdOk rdTw encT TxV where
  sound xs s ys ho h := by
    unfold rdTw at h
    simp only [Prod.mk.injEq, Bool.false_or, decide_eq_false_iff_not, ne_eq, Decidable.not_not] at h
    obtain ⟨h1, h2, h3⟩ := h
    obtain ⟨⟨r, n, e⟩, hr⟩ : ∃ r, takeV xs = r := ⟨_, rfl⟩
    have ht := textR_eq xs hr
    by_cases he : e ≠ 0
    · rw [if_pos he] at ht; rw [ht] at h3; exact absurd h3 he
    rw [if_neg he] at ht
    have he0 : e = 0 := by omega
    subst he0
    obtain ⟨v, hv, e1, rfl, rfl⟩ := takeV_sound ho hr
    by_cases h5 : (1048576 : Int) < v
    · rw [if_pos h5] at ht; rw [ht] at h3; simp at h3
    rw [if_neg h5] at ht
    by_cases h6 : (xs.length : Int) - (varN v).length < v
    · rw [if_pos h6] at ht; rw [ht] at h3; simp at h3
    rw [if_neg h6] at ht
    rw [ht] at h1 h2
    dsimp only at h1 h2
    rw [Int.toNat_natCast, Int.toNat_natCast] at h1
    rw [Int.toNat_natCast] at e1
    rw [show (((varN v).length : Int) + (v : Int)).toNat = (varN v).length + v by omega] at h2
    obtain ⟨t, htt⟩ : ∃ t, (xs.drop (varN v).length).take v = t := ⟨_, rfl⟩
    rw [htt] at h1
    have hto : Oct t := by rw [← htt]; exact (ho.drop _).take _
    have htl : t.length = v := by rw [← htt, List.length_take, List.length_drop]; omega
    have hw : txW s = t := by rw [← h1]; exact txW_str hto
    have hsz : s.size = v := by rw [← txW_len, hw, htl]
    refine ⟨by show s.size ≤ _; omega, ?_⟩
    unfold encT
    rw [hsz, hw, List.append_assoc]
    conv => lhs; rw [e1]
    congr 1
    rw [← htt, ← h2, ← List.drop_drop, List.take_append_drop]
  compl s r h := by
    have hs : s.size ≤ 1048576 := h
    have ht : takeV (encT s ++ r) = ((s.size : Int), ((varN s.size).length : Int), 0) := by
      unfold encT; rw [List.append_assoc]; exact takeV_var _ (by omega) _
    have hl : (encT s ++ r).length = (varN s.size).length + s.size + r.length := by unfold encT; simp only [List.length_append, txW_len]
    have hx := textR_eq _ ht
    rw [if_neg (by decide), if_neg (by omega), if_neg (by rw [hl]; push_cast; omega)] at hx
    rw [Int.toNat_natCast, Int.toNat_natCast] at hx
    have hd : (encT s ++ r).drop (varN s.size).length = txW s ++ r := by unfold encT; rw [List.append_assoc, List.drop_left]
    rw [hd, List.take_left' (txW_len s)] at hx
    unfold rdTw
    rw [hx]
    dsimp only
    rw [str_txW, show (((varN s.size).length : Int) + (s.size : Int)).toNat = (encT s).length by unfold encT; rw [List.length_append, txW_len]; omega, List.drop_left]
    simp
  sticky xs := by simp [rdTw]
  oct xs b ho := ho.drop _
end Go.Proofs.YtbnndbdnejfehaaGreatDoor
