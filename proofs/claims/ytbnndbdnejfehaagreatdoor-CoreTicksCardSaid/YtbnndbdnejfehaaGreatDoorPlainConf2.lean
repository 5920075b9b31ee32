/- The plain law of the reference of conf: its sets and counts are the program's. -/
import Derived.Test.YtbnndbdnejfehaaGreatDoorPlainConf
namespace Go.Proofs.YtbnndbdnejfehaaGreatDoor
open Go

def nodeB (i : Nat) : Bool := decide (1 ≤ i) && decide (i ≤ 9)
theorem tb_meet (a b : Int) (ha : 0 ≤ a) (hb : 0 ≤ b) (i : Nat) (hi : i < 16) : tb (meetB a b) i = (tb a i && tb b i && nodeB i) := tb_meetB a b ha hb i hi
theorem tb_join (a b : Int) (ha : 0 ≤ a) (hb : 0 ≤ b) (i : Nat) (hi : i < 16) : tb (joinB a b) i = ((tb a i || tb b i) && nodeB i) := tb_joinB a b ha hb i hi
theorem tb_node (v : Int) (h0 : 0 ≤ v) (hm : mayB v = true) (i : Nat) (hi : i < 16) : tb v i = true → nodeB i = true := fun h => by
  have := (mayB_iff v h0).1 hm i hi h; simp [nodeB, this.1, this.2]

theorem bj1 : ∀ v x m : Bool, (v = true → m = true) → (x = true → m = true) → ((false || ((v || x) && m)) && m) = (v || x) := by decide
theorem bj2 : ∀ v x v' x' m : Bool, (v = true → m = true) → (x = true → m = true) → (v' = true → m = true) → (x' = true → m = true) → (((false || ((v || x) && m)) && m || ((v' || x') && m)) && m) = ((v || x) || (v' || x')) := by decide
theorem bj3 : ∀ v l m : Bool, (v = true → m = true) → (l = true → m = true) → (((false || v) && m || l) && m) = (v || l) := by decide
theorem bj4 : ∀ v l v' l' m : Bool, (v = true → m = true) → (l = true → m = true) → (v' = true → m = true) → (l' = true → m = true) → ((((((false || v) && m || l) && m) || v') && m || l') && m) = ((v || l) || (v' || l')) := by decide
section
variable (jov jox jol joe jok jnv jnx jnl jne jnk : Int) (jt : Bool) (fo : FitC jov jox jol) (fn : FitC jnv jnx jnl) (hm : mayJ jov jox jol joe jok jnv jnx jnl jne jnk jt = true)
include fo fn hm
theorem voting_same : (if jt then joinB (joinB 0 (joinB jov jox)) (joinB jnv jnx) else joinB 0 (joinB jov jox)) = pickB jt (bits .or .u16 jov jox) (bits .or .u16 jnv jnx) := by
  have ho := mayJ_old _ _ _ _ _ _ _ _ _ _ _ hm
  have j0 := (joinB_fit jov jox).1
  have j1 := (joinB_fit jnv jnx).1
  have j2 := (joinB_fit 0 (joinB jov jox)).1
  have o0 := (bits_fit .or jov jox).1
  have o1 := (bits_fit .or jnv jnx).1
  cases jt
  · simp only [pickB, Bool.false_eq_true, if_false]
    apply tb_ext _ _ (joinB_fit _ _).1 o0 (joinB_fit _ _).2 (bits_fit _ _ _).2
    intro i hi
    rw [tb_join _ _ (by omega) j0 i hi, tb_join _ _ fo.v0 fo.x0 i hi, tb_or _ _ fo.v0 fo.x0 i hi, tb_zero]
    exact bj1 _ _ _ (tb_node _ fo.v0 ho.mv i hi) (tb_node _ fo.x0 ho.mx i hi)
  · have hn := mayJ_new _ _ _ _ _ _ _ _ _ _ hm
    simp only [pickB, if_true]
    apply tb_ext _ _ (joinB_fit _ _).1 (bits_fit _ _ _).1 (joinB_fit _ _).2 (bits_fit _ _ _).2
    intro i hi
    rw [tb_join _ _ j2 j1 i hi, tb_join _ _ (by omega) j0 i hi, tb_join _ _ fo.v0 fo.x0 i hi, tb_join _ _ fn.v0 fn.x0 i hi, tb_or _ _ o0 o1 i hi, tb_or _ _ fo.v0 fo.x0 i hi, tb_or _ _ fn.v0 fn.x0 i hi, tb_zero]
    exact bj2 _ _ _ _ _ (tb_node _ fo.v0 ho.mv i hi) (tb_node _ fo.x0 ho.mx i hi) (tb_node _ fn.v0 hn.mv i hi) (tb_node _ fn.x0 hn.mx i hi)
theorem data_same : (if jt then joinB (joinB (joinB (joinB 0 jov) jol) jnv) jnl else joinB (joinB 0 jov) jol) = pickB jt (bits .or .u16 jov jol) (bits .or .u16 jnv jnl) := by
  have ho := mayJ_old _ _ _ _ _ _ _ _ _ _ _ hm
  have j0 := (joinB_fit 0 jov).1
  have j1 := (joinB_fit (joinB 0 jov) jol).1
  have j2 := (joinB_fit (joinB (joinB 0 jov) jol) jnv).1
  have o0 := (bits_fit .or jov jol).1
  have o1 := (bits_fit .or jnv jnl).1
  cases jt
  · simp only [pickB, Bool.false_eq_true, if_false]
    apply tb_ext _ _ (joinB_fit _ _).1 o0 (joinB_fit _ _).2 (bits_fit _ _ _).2
    intro i hi
    rw [tb_join _ _ j0 fo.l0 i hi, tb_join _ _ (by omega) fo.v0 i hi, tb_or _ _ fo.v0 fo.l0 i hi, tb_zero]
    exact bj3 _ _ _ (tb_node _ fo.v0 ho.mv i hi) (tb_node _ fo.l0 ho.ml i hi)
  · have hn := mayJ_new _ _ _ _ _ _ _ _ _ _ hm
    simp only [pickB, if_true]
    apply tb_ext _ _ (joinB_fit _ _).1 (bits_fit _ _ _).1 (joinB_fit _ _).2 (bits_fit _ _ _).2
    intro i hi
    rw [tb_join _ _ j2 fn.l0 i hi, tb_join _ _ j1 fn.v0 i hi, tb_join _ _ j0 fo.l0 i hi, tb_join _ _ (by omega) fo.v0 i hi, tb_or _ _ o0 o1 i hi, tb_or _ _ fo.v0 fo.l0 i hi, tb_or _ _ fn.v0 fn.l0 i hi, tb_zero]
    exact bj4 _ _ _ _ _ (tb_node _ fo.v0 ho.mv i hi) (tb_node _ fo.l0 ho.ml i hi) (tb_node _ fn.v0 hn.mv i hi) (tb_node _ fn.l0 hn.ml i hi)
theorem members_same : joinB (pickB jt (bits .or .u16 jov jox) (bits .or .u16 jnv jnx)) (pickB jt (bits .or .u16 jov jol) (bits .or .u16 jnv jnl)) = pickB jt (bits .or .u16 (bits .or .u16 jov jox) jol) (bits .or .u16 (bits .or .u16 jnv jnx) jnl) := by
  have ho := mayJ_old _ _ _ _ _ _ _ _ _ _ _ hm
  have a0 := (bits_fit .or jov jox).1
  have b0 := (bits_fit .or jov jol).1
  have a1 := (bits_fit .or jnv jnx).1
  have b1 := (bits_fit .or jnv jnl).1
  have c0 := (bits_fit .or (bits .or .u16 jov jox) jol)
  have c1 := (bits_fit .or (bits .or .u16 jnv jnx) jnl).1
  cases jt
  · simp only [pickB, Bool.false_eq_true, if_false]
    apply tb_ext _ _ (joinB_fit _ _).1 c0.1 (joinB_fit _ _).2 c0.2
    intro i hi
    rw [tb_join _ _ a0 b0 i hi, tb_or _ _ a0 fo.l0 i hi, tb_or _ _ fo.v0 fo.x0 i hi, tb_or _ _ fo.v0 fo.l0 i hi]
    have h1 := tb_node _ fo.v0 ho.mv i hi
    have h2 := tb_node _ fo.x0 ho.mx i hi
    have h3 := tb_node _ fo.l0 ho.ml i hi
    have key : ∀ v x l m : Bool, (v = true → m = true) → (x = true → m = true) → (l = true → m = true) → (((v || x) || (v || l)) && m) = ((v || x) || l) := by decide
    exact key _ _ _ _ h1 h2 h3
  · have hn := mayJ_new _ _ _ _ _ _ _ _ _ _ hm
    simp only [pickB, if_true]
    apply tb_ext _ _ (joinB_fit _ _).1 (bits_fit _ _ _).1 (joinB_fit _ _).2 (bits_fit _ _ _).2
    intro i hi
    rw [tb_join _ _ (bits_fit _ _ _).1 (bits_fit _ _ _).1 i hi, tb_or _ _ a0 a1 i hi, tb_or _ _ b0 b1 i hi, tb_or _ _ c0.1 c1 i hi, tb_or _ _ a0 fo.l0 i hi, tb_or _ _ a1 fn.l0 i hi, tb_or _ _ fo.v0 fo.x0 i hi, tb_or _ _ fo.v0 fo.l0 i hi, tb_or _ _ fn.v0 fn.x0 i hi, tb_or _ _ fn.v0 fn.l0 i hi]
    have key : ∀ v x l v' x' l' m : Bool, (v = true → m = true) → (x = true → m = true) → (l = true → m = true) → (v' = true → m = true) → (x' = true → m = true) → (l' = true → m = true) → ((((v || x) || (v' || x')) || ((v || l) || (v' || l'))) && m) = (((v || x) || l) || ((v' || x') || l')) := by decide
    exact key _ _ _ _ _ _ _ (tb_node _ fo.v0 ho.mv i hi) (tb_node _ fo.x0 ho.mx i hi) (tb_node _ fo.l0 ho.ml i hi) (tb_node _ fn.v0 hn.mv i hi) (tb_node _ fn.x0 hn.mx i hi) (tb_node _ fn.l0 hn.ml i hi)
end

theorem cnt_congr (a b : Int) (h : ∀ i, 1 ≤ i → i ≤ 9 → tb a i = tb b i) : cnt a = cnt b := by rw [cnt_bs, cnt_bs, bs_congr 9 h]
theorem cnt_meet (v x g : Int) (v0 : 0 ≤ v) (x0 : 0 ≤ x) (g0 : 0 ≤ g) : cnt (meetB (joinB v x) g) = cnt (bits .and .u16 (bits .or .u16 v x) g) := by
  apply cnt_congr
  intro i h1 h2
  have hn : nodeB i = true := by simp [nodeB, h1, h2]
  rw [tb_meet _ _ (joinB_fit _ _).1 g0 i (by omega), tb_join _ _ v0 x0 i (by omega), tb_and _ _ (bits_fit _ _ _).1 g0 i (by omega), tb_or _ _ v0 x0 i (by omega), hn, Bool.and_true, Bool.and_true]
theorem meet_zero (v g : Int) (v0 : 0 ≤ v) (g0 : 0 ≤ g) : (meetB v g == 0) = !decide (0 < cnt (bits .and .u16 v g)) := by
  have hf := meetB_fit v g
  have hm : mayB (meetB v g) = true := by
    rw [mayB_iff _ hf.1]
    intro i hi ht
    rw [tb_meet _ _ v0 g0 i hi] at ht
    simp [nodeB] at ht; exact ht.2
  have h1 := cnt_none _ hf.1 hf.2 hm
  have h2 : cnt (meetB v g) = cnt (bits .and .u16 v g) := by
    apply cnt_congr
    intro i h1 h2
    have hn : nodeB i = true := by simp [nodeB, h1, h2]
    rw [tb_meet _ _ v0 g0 i (by omega), tb_and _ _ v0 g0 i (by omega), hn, Bool.and_true]
  have h3 := cnt_nonneg (bits .and .u16 v g)
  rw [h2] at h1
  rw [Bool.eq_iff_iff, beq_iff_eq, ← h1]
  simp; omega
theorem elects_same (jov jox jol joe jok jnv jnx jnl jne jnk g : Int) (jt : Bool) (fo : FitC jov jox jol) (fn : FitC jnv jnx jnl) (g0 : 0 ≤ g) :
    (!decide (cnt (meetB (joinB jov jox) g) < joe) && (!jt || !decide (cnt (meetB (joinB jnv jnx) g) < jne))) = electsJ jov jox jol joe jok jnv jnx jnl jne jnk jt g := by
  rw [cnt_meet _ _ _ fo.v0 fo.x0 g0, cnt_meet _ _ _ fn.v0 fn.x0 g0]
  have e : ∀ a b : Int, (!decide (a < b)) = decide (b ≤ a) := fun a b => by rw [Bool.eq_iff_iff]; simp
  rw [e, e]; rfl
theorem commits_same (jov jox jol joe jok jnv jnx jnl jne jnk g : Int) (jt : Bool) (fo : FitC jov jox jol) (fn : FitC jnv jnx jnl) (g0 : 0 ≤ g) :
    ((!decide (cnt (meetB (joinB jov jox) g) < jok) && !(meetB jov g == 0)) && (!jt || (!decide (cnt (meetB (joinB jnv jnx) g) < jnk) && !(meetB jnv g == 0)))) = commitsJ jov jox jol joe jok jnv jnx jnl jne jnk jt g := by
  rw [cnt_meet _ _ _ fo.v0 fo.x0 g0, cnt_meet _ _ _ fn.v0 fn.x0 g0, meet_zero _ _ fo.v0 g0, meet_zero _ _ fn.v0 g0]
  have e : ∀ a b : Int, (!decide (a < b)) = decide (b ≤ a) := fun a b => by rw [Bool.eq_iff_iff]; simp
  rw [e _ jok, e _ jnk, Bool.not_not, Bool.not_not]; rfl
theorem leads_same (jov jnv n : Int) (jt : Bool) (v0 : 0 ≤ jov) (n0 : 0 ≤ jnv) : (hasB jov n || (jt && hasB jnv n)) = hasB (pickB jt jov jnv) n := by
  cases jt
  · simp [pickB]
  · simp only [pickB, if_true, Bool.true_and]
    unfold hasB
    by_cases h : 1 ≤ n ∧ n ≤ 9
    · rw [tb_or _ _ v0 n0 _ (by omega), decide_eq_true h.1, decide_eq_true h.2]; simp
    · have : decide (1 ≤ n) = false ∨ decide (n ≤ 9) = false := by simp; omega
      rcases this with h | h <;> rw [h] <;> simp
end Go.Proofs.YtbnndbdnejfehaaGreatDoor
