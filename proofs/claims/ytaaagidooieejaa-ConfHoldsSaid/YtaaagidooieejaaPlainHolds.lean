/- ConfHolds, ConfChain: the plain laws. -/
import Derived.Test.YtaaagidooieejaaPlainConf
namespace Go.Proofs.Ytaaagidooieejaa

theorem apart_of (a b : Int) (ha : 0 ≤ a) (hb : 0 ≤ b) (hz : bits .and .u16 a b = 0) : ∀ i, 1 ≤ i → i ≤ 9 → (tb a i && tb b i) = false := fun i _ h => and_apart a b ha hb hz i (by omega)
section
variable (jov jox jol joe jok jnv jnx jnl jne jnk : Int) (jt : Bool) (tv tx tl te tk A B : Int)
theorem electsJ_old {g : Int} (h : electsJ jov jox jol joe jok jnv jnx jnl jne jnk jt g = true) : electsC jov jox jol joe jok g = true := by unfold electsJ at h; simp at h; exact h.1
theorem electsJ_new {g : Int} (h : electsJ jov jox jol joe jok jnv jnx jnl jne jnk true g = true) : electsC jnv jnx jnl jne jnk g = true := by unfold electsJ at h; simp at h; exact h.2
theorem commitsJ_old {g : Int} (h : commitsJ jov jox jol joe jok jnv jnx jnl jne jnk jt g = true) : commitsC jov jox jol joe jok g = true := by unfold commitsJ at h; simp at h; exact h.1
theorem commitsJ_new {g : Int} (h : commitsJ jov jox jol joe jok jnv jnx jnl jne jnk true g = true) : commitsC jnv jnx jnl jne jnk g = true := by unfold commitsJ at h; simp at h; exact h.2
/-- What elects, in a joint, meets what commits, and what elects, in another one with which it shares a configuration in force. -/
theorem change_zero (h : changeE jov jox jol jt tv tx tl te tk = 0) : jt = false ∧ mayC tv tx tl te tk = true ∧ tx = jox ∧ bits .andNot .u16 tv (bits .or .u16 jov jol) = 0 := by
  unfold changeE at h
  split at h
  · omega
  · rename_i h1
    split at h
    · rename_i h2
      split at h
      · rename_i h3
        split at h
        · rename_i h4; exact ⟨by simpa using h1, h2, h3, h4⟩
        · omega
      · omega
    · omega
end
section
variable (cv cx cl ce ck A B : Int) (hA : 0 ≤ A) (hB : 0 ≤ B) (hm : May cv cx cl ce ck) (hz : bits .and .u16 A B = 0)
include hA hB hm hz
theorem no_commit (h : electsC cv cx cl ce ck A = true) : commitsC cv cx cl ce ck B = false := by
  cases k : commitsC cv cx cl ce ck B
  · rfl
  · exact (meets_commit cv cx cl ce ck A B hA hB hm h k (apart_of A B hA hB hz)).elim
theorem no_elect (h : electsC cv cx cl ce ck A = true) : electsC cv cx cl ce ck B = false := by
  cases k : electsC cv cx cl ce ck B
  · rfl
  · exact (meets_elect cv cx cl ce ck A B hA hB hm h k (apart_of A B hA hB hz)).elim
end
theorem ej_old (jov jox jol joe jok jnv jnx jnl jne jnk : Int) (jt : Bool) (g : Int) (h : electsC jov jox jol joe jok g = false) : electsJ jov jox jol joe jok jnv jnx jnl jne jnk jt g = false := by simp [electsJ, h]
theorem ej_new (jov jox jol joe jok jnv jnx jnl jne jnk : Int) (g : Int) (h : electsC jnv jnx jnl jne jnk g = false) : electsJ jov jox jol joe jok jnv jnx jnl jne jnk true g = false := by simp [electsJ, h]
theorem kj_old (jov jox jol joe jok jnv jnx jnl jne jnk : Int) (jt : Bool) (g : Int) (h : commitsC jov jox jol joe jok g = false) : commitsJ jov jox jol joe jok jnv jnx jnl jne jnk jt g = false := by simp [commitsJ, h]
theorem kj_new (jov jox jol joe jok jnv jnx jnl jne jnk : Int) (g : Int) (h : commitsC jnv jnx jnl jne jnk g = false) : commitsJ jov jox jol joe jok jnv jnx jnl jne jnk true g = false := by simp [commitsJ, h]
theorem may_made (jov jox jol joe jok jnv jnx jnl jne jnk : Int) (tv tx tl te tk : Int) (hm : mayJ jov jox jol joe jok jnv jnx jnl jne jnk false = true) (ht : mayC tv tx tl te tk = true) : mayJ jov jox jol joe jok tv tx tl te tk true = true ∧ mayJ tv tx tl te tk 0 0 0 0 0 false = true := by
  constructor
  · have := (mayC_iff _ _ _ _ _).2 (mayJ_old jov jox jol joe jok jnv jnx jnl jne jnk false hm)
    simp [mayJ, this, ht]
  · simp [mayJ, ht]
theorem meet_some (cv cx cl ce ck a b : Int) (ha : 0 ≤ a) (hb : 0 ≤ b) (hm : May cv cx cl ce ck) (he : electsC cv cx cl ce ck a = true) (hk : commitsC cv cx cl ce ck b = true) : (meetB a b == 0) = false := by
  cases h : (meetB a b == 0)
  · rfl
  · have h' : meetB a b = 0 := by simpa using h
    refine (meets_commit cv cx cl ce ck a b ha hb hm he hk fun i h1 h2 => ?_).elim
    have := tb_meetB a b ha hb i (by omega)
    rw [h', tb_zero] at this
    simp only [decide_eq_true h1, decide_eq_true h2, Bool.and_true] at this
    exact this.symm
/-- A configuration as data. -/
structure Cfg where
  v : Int
  x : Int
  l : Int
  e : Int
  k : Int
end Go.Proofs.Ytaaagidooieejaa
