/- Core: the plain law: which cores may be. -/
import Derived.Test.YtbnndbdnejfehaaGreatDoorPlainHard
import Derived.Test.YtbnndbdnejfehaaGreatDoorPlainMayL
import Derived.Test.YtbnndbdnejfehaaGreatDoorLogJ
import Derived.Test.YtbnndbdnejfehaaGreatDoorPlainConf
import Derived.Test.YtbnndbdnejfehaaGreatDoorTakeT
namespace Go.Proofs.YtbnndbdnejfehaaGreatDoor

/-- May a joint be? -/
def jnM (j : Jn) : Bool := mayJ j.ov j.ox j.ol j.oe j.ok j.nv j.nx j.nl j.ne j.nk j.two
def enM (e : Ent) : Bool := !decide (e.k = 2) || jnM e.j
def logM (l : Lg) : Bool := mayL l && jnM l.j && l.es.all enM
/-- May a core be? -/
structure CoMay (c : Co) : Prop where
  id0 : 1 ≤ c.id
  id1 : c.id ≤ 9
  ro0 : 0 ≤ c.role
  ro1 : c.role ≤ 2
  tm0 : 0 ≤ c.tm
  tm1 : c.tm ≤ 1099511627776
  vt0 : 0 ≤ c.vt
  vt1 : c.vt ≤ 9
  ld0 : 0 ≤ c.ld
  ld1 : c.ld ≤ 9
  l : logM c.l = true
  lt : lastTerm c.l ≤ c.tm
  cm0 : c.l.b ≤ c.cm
  cm1 : c.cm ≤ c.l.last
  wt0 : 0 ≤ c.wt
  wt1 : c.wt ≤ 1099511627776
  sf0 : 0 ≤ c.sf
  sf1 : c.sf ≤ 1099511627776
  nx : ∀ n, n < 10 → 0 ≤ c.nx n ∧ c.nx n ≤ 2199023255552
  mt : ∀ n, n < 10 → 0 ≤ c.mt n ∧ c.mt n ≤ c.l.last
theorem logM_may {l : Lg} (h : logM l = true) : mayL l = true := by
  unfold logM at h
  simp only [Bool.and_eq_true] at h
  exact h.1.1
theorem enM_at {l : List Ent} {k : Nat} (hk : k < l.length) : (l.drop k).all enM = (enM l[k] && (l.drop (k + 1)).all enM) := by
  rw [List.drop_eq_getElem_cons hk, List.all_cons]
theorem enM_other {e : Ent} (h : e.k ≠ 2) : enM e = true := by unfold enM; rw [decide_eq_false h]; rfl
theorem enM_conf {e : Ent} (h : e.k = 2) : enM e = jnM e.j := by unfold enM; rw [decide_eq_true h]; rfl
end Go.Proofs.YtbnndbdnejfehaaGreatDoor
