/- Logs: the plain law: which logs may be, and which are not too great. -/
import Derived.Test.YtbnndbdnejfehaaGreatDoorLogJ
namespace Go.Proofs.YtbnndbdnejfehaaGreatDoor

def mayE : List Ent → Int → Bool
  | [], _ => true
  | e :: r, t => decide (t ≤ e.t) && (decide (e.t ≤ 1099511627776) && mayE r e.t)
def mayL (l : Lg) : Bool := decide (0 ≤ l.b) && (decide (l.b ≤ 1099511627776) && (decide (0 ≤ l.bt) && (decide (l.bt ≤ 1099511627776) && mayE l.es (max1 l.bt))))
theorem mayE_step {L : List Ent} {k : Nat} (hk : k < L.length) (t : Int) : mayE (L.drop k) t = (decide (t ≤ L[k].t) && (decide (L[k].t ≤ 1099511627776) && mayE (L.drop (k + 1)) L[k].t)) := by
  rw [List.drop_eq_getElem_cons hk]; rfl
theorem mayE_end (L : List Ent) (t : Int) : mayE (L.drop L.length) t = true := by rw [List.drop_length]; rfl
theorem mayL_b0 {l : Lg} (h : l.b < 0) : mayL l = false := by unfold mayL; simp; omega
theorem mayL_b1 {l : Lg} (h : 1099511627776 < l.b) : mayL l = false := by unfold mayL; simp; omega
theorem mayL_t0 {l : Lg} (h : l.bt < 0) : mayL l = false := by unfold mayL; simp; omega
theorem mayL_t1 {l : Lg} (h : 1099511627776 < l.bt) : mayL l = false := by unfold mayL; simp; omega
theorem mayL_in {l : Lg} (h0 : 0 ≤ l.b) (h1 : l.b ≤ 1099511627776) (h2 : 0 ≤ l.bt) (h3 : l.bt ≤ 1099511627776) : mayL l = mayE l.es (max1 l.bt) := by
  unfold mayL; simp [h0, h1, h2, h3]
def smallB (L : List Ent) : Bool := L.all fun e => decide (e.d.size ≤ 200)
theorem smallB_no {L : List Ent} {k : Nat} (hk : k < L.length) (h : 200 < L[k].d.size) : smallB L = false := by
  unfold smallB
  rw [List.all_eq_false]
  exact ⟨L[k], List.getElem_mem hk, by simp; omega⟩
theorem smallB_yes {L : List Ent} (h : ∀ k, (hk : k < L.length) → L[k].d.size ≤ 200) : smallB L = true := by
  unfold smallB
  rw [List.all_eq_true]
  intro e he
  obtain ⟨k, hk, rfl⟩ := List.getElem_of_mem he
  simpa using h k hk
def lightB (l : Lg) (es : List Ent) : Bool := decide (l.es.length ≤ 60) && (decide (es.length ≤ 60) && (smallB l.es && smallB es))
end Go.Proofs.YtbnndbdnejfehaaGreatDoor
