import Derived.Test.YtbnndbdnejfehaaGreatDoorWireT
import Derived.Test.YtbnndbdnejfehaaGreatDoorWireF
import Derived.Test.YtbnndbdnejfehaaGreatDoorTakeT
import Derived.Test.YtbnndbdnejfehaaGreatDoorGwJ
import Derived.Maps.AppendAt
import Derived.Deep.RegionHeld3
import Derived.Test.YtbnndbdnejfehaaGreatDoorPlainHard
import Derived.Test.YtbnndbdnejfehaaGreatDoorLogP
import Derived.Test.YtbnndbdnejfehaaGreatDoorLogU
/- Wire: readers, the plain law: what reads is what was written, and what was written is read. -/
namespace Go.Proofs.YtbnndbdnejfehaaGreatDoor

def Oct (xs : List Int) : Prop := ∀ x ∈ xs, 0 ≤ x ∧ x ≤ 255
theorem Oct.drop {xs : List Int} (h : Oct xs) (n : Nat) : Oct (xs.drop n) := fun x hx => h x (List.mem_of_mem_drop hx)
theorem Oct.take {xs : List Int} (h : Oct xs) (n : Nat) : Oct (xs.take n) := fun x hx => h x (List.mem_of_mem_take hx)
theorem Oct.tail {x : Int} {xs : List Int} (h : Oct (x :: xs)) : Oct xs := fun y hy => h y (List.mem_cons_of_mem _ hy)
/-- What a number was read out of. -/
theorem takeGo_sound : ∀ (xs : List Int) (i : Nat) (a u r n : Int), Oct xs → i ≤ 9 → takeGo xs i a u = (r, n, 0) →
    ∃ v : Nat, xs = varN v ++ xs.drop (varN v).length ∧ r = a + v * u ∧ n = ((i + (varN v).length : Nat) : Int) ∧ (v = 0 → i = 0) ∧ v < 128 ^ (9 - i) * 2
  | [], i, a, u, r, n, _, _, h => by simp [takeGo] at h
  | c :: cs, i, a, u, r, n, ho, hi, h => by
    have hc := ho c (by simp)
    unfold takeGo at h
    by_cases h1 : i = 9 ∧ 1 < c
    · rw [if_pos h1] at h; simp at h
    rw [if_neg h1] at h
    by_cases h2 : 128 ≤ c
    · rw [if_pos h2] at h
      have hi8 : i ≤ 8 := by omega
      obtain ⟨v, e1, e2, e3, e4, e5⟩ := takeGo_sound cs (i + 1) _ _ r n ho.tail (by omega) h
      have hv0 : 0 < v := by
        rcases Nat.eq_zero_or_pos v with h0 | h0
        · have := e4 h0; omega
        · exact h0
      obtain ⟨k, hk⟩ : ∃ k : Nat, c = 128 + k ∧ k < 128 := ⟨(c - 128).toNat, by omega, by omega⟩
      obtain ⟨hk, hk2⟩ := hk
      have hstep : varN (v * 128 + k) = c :: varN v := by
        rw [varN_step _ (by omega), show (v * 128 + k) % 128 = k by omega, show (v * 128 + k) / 128 = v by omega]
        congr 1; omega
      refine ⟨v * 128 + k, ?_, ?_, ?_, by omega, ?_⟩
      · rw [hstep, List.length_cons, List.drop_succ_cons, List.cons_append, ← e1]
      · rw [e2, hk, show (128 + (k : Int)) % 128 = k by omega]
        push_cast
        rw [Int.add_mul, show (v : Int) * (u * 128) = (v : Int) * 128 * u by rw [Int.mul_assoc, Int.mul_comm 128 u]]
        omega
      · rw [e3, hstep, List.length_cons]; push_cast; omega
      · have : 128 ^ (9 - i) = 128 ^ (9 - (i + 1)) * 128 := by rw [← Nat.pow_succ]; congr 1; omega
        rw [this]; omega
    rw [if_neg h2] at h
    by_cases h3 : c = 0 ∧ 0 < i
    · rw [if_pos h3] at h; simp at h
    rw [if_neg h3] at h
    simp only [Prod.mk.injEq, and_true] at h
    obtain ⟨e1, e2⟩ := h
    obtain ⟨k, hk⟩ : ∃ k : Nat, c = k := ⟨c.toNat, by omega⟩
    subst hk
    have hs := varN_small k (by omega)
    refine ⟨k, by rw [hs]; simp, ?_, by rw [hs, ← e2]; simp, by omega, ?_⟩
    · rw [← e1, show (k : Int) % 128 = k by omega]
    · by_cases h9 : i = 9
      · subst h9; simp; omega
      · have : 128 ^ (9 - i) = 128 ^ (8 - i) * 128 := by rw [← Nat.pow_succ]; congr 1; omega
        have hp : 0 < 128 ^ (8 - i) := Nat.pow_pos (by omega)
        rw [this]; omega
theorem takeV_sound {xs : List Int} {r n : Int} (ho : Oct xs) (h : takeV xs = (r, n, 0)) : ∃ v : Nat, v ≤ 18446744073709551615 ∧ xs = varN v ++ xs.drop n.toNat ∧ r = v ∧ n = ((varN v).length : Int) := by
  obtain ⟨v, e1, e2, e3, _, e5⟩ := takeGo_sound xs 0 0 1 r n ho (by omega) h
  have : 128 ^ (9 - 0) * 2 = 18446744073709551616 := by decide
  refine ⟨v, by omega, ?_, by omega, by omega⟩
  rw [e3, show ((0 + (varN v).length : Nat) : Int).toNat = (varN v).length by omega]; exact e1
theorem zig_zag {u : Int} (h0 : 0 ≤ u) (h1 : u ≤ 18446744073709551615) : zigI (zagI u) = u ∧ In64 (zagI u) := by
  unfold zigI zagI In64
  split <;> split <;> (refine ⟨?_, ?_, ?_⟩ <;> omega)
theorem trip {α β γ : Type} {r : α × β × γ} {y : β} {z : γ} (h2 : r.2.1 = y) (h3 : r.2.2 = z) : r = (r.1, y, z) := by subst h2 h3; rfl
/-- A reader of what enc writes. -/
structure RdOk {α : Type} (f : List Int → Bool → α × List Int × Bool) (enc : α → List Int) (ok : α → Prop) : Prop where
  sound : ∀ xs a ys, Oct xs → f xs false = (a, ys, false) → ok a ∧ xs = enc a ++ ys
  compl : ∀ a r, ok a → f (enc a ++ r) false = (a, r, false)
  sticky : ∀ xs, (f xs true).2.2 = true
  oct : ∀ xs b, Oct xs → Oct (f xs b).2.1
theorem rdNw_ok : RdOk rdNw encN In64 where
  sound xs a ys ho h := by
    unfold rdNw at h
    simp only [Prod.mk.injEq, Bool.false_or, decide_eq_false_iff_not, ne_eq, Decidable.not_not] at h
    obtain ⟨h1, h2, h3⟩ := h
    obtain ⟨r, n, e⟩ : ∃ r n, takeV xs = (r, n, 0) := ⟨_, _, by rw [← h3]⟩
    obtain ⟨v, hv, e1, rfl, rfl⟩ := takeV_sound ho e
    rw [e] at h1 h2
    dsimp only at h1 h2
    have z := zig_zag (u := (v : Int)) (by omega) (by omega)
    rw [h1] at z
    refine ⟨z.2, ?_⟩
    unfold encN
    rw [z.1, Int.toNat_natCast, ← h2, Int.toNat_natCast]
    rw [Int.toNat_natCast] at e1; exact e1
  compl a r h := rdNw_enc h r
  sticky xs := by simp [rdNw]
  oct xs b ho := ho.drop _
theorem rdBw_ok : RdOk rdBw (fun x => [x]) (fun x => 0 ≤ x ∧ x ≤ 255) where
  sound xs a ys ho h := by
    cases xs with
    | nil => simp [rdBw] at h
    | cons x t =>
      simp only [rdBw, Prod.mk.injEq, and_true] at h
      obtain ⟨rfl, rfl⟩ := h
      exact ⟨ho _ (by simp), rfl⟩
  compl a r _ := rfl
  sticky xs := by cases xs <;> rfl
  oct xs b ho := by
    cases xs with
    | nil => exact ho
    | cons x t => exact ho.tail
theorem rdFw_ok : RdOk rdFw encF (fun _ => True) where
  sound xs a ys ho h := by
    unfold rdFw at h
    simp only [Prod.mk.injEq, Bool.or_eq_false_iff, decide_eq_false_iff_not] at h
    obtain ⟨h1, h2, h3, h4⟩ := h
    cases xs with
    | nil => simp [rdBw] at h3
    | cons x t =>
      simp only [rdBw] at h1 h2 h3 h4
      subst h2
      refine ⟨trivial, ?_⟩
      have hx := ho x (by simp)
      unfold encF
      by_cases e : x = 1
      · have ha : a = true := by rw [← h1, e]; rfl
        rw [ha, e]; rfl
      · have h0 : x = 0 := by omega
        have ha : a = false := by rw [← h1, h0]; rfl
        rw [ha, h0]; rfl
  compl a r _ := rdFw_enc a r
  sticky xs := by unfold rdFw; rw [rdBw_ok.sticky]; rfl
  oct xs b ho := rdBw_ok.oct xs b ho
theorem beVal_inj : ∀ {xs ys : List Int}, xs.length = ys.length → Oct xs → Oct ys → beVal xs = beVal ys → xs = ys
  | [], [], _, _, _, _ => rfl
  | [], _ :: _, h, _, _, _ => by simp at h
  | _ :: _, [], h, _, _, _ => by simp at h
  | a :: xs, b :: ys, h, ha, hb, e => by
    have hl : xs.length = ys.length := by simpa using h
    rw [beVal_cons, beVal_cons, ← hl] at e
    have b1 := beVal_bound xs.length xs rfl ha.tail
    have b2 := beVal_bound xs.length ys hl.symm hb.tail
    have a1 := ha a (by simp); have a2 := hb b (by simp)
    have hab : a = b := by
      rcases Int.lt_trichotomy a b with h | h | h
      · have : (a + 1) * 256 ^ xs.length ≤ b * 256 ^ xs.length := Int.mul_le_mul_of_nonneg_right (by omega) (by omega)
        rw [Int.add_mul] at this; omega
      · exact h
      · have : (b + 1) * 256 ^ xs.length ≤ a * 256 ^ xs.length := Int.mul_le_mul_of_nonneg_right (by omega) (by omega)
        rw [Int.add_mul] at this; omega
    subst hab
    rw [beVal_inj hl ha.tail hb.tail (by omega)]
theorem pre_val {l : List Int} {n : Nat} (hn : l.length = n) (ho : Oct l) : bePre (beVal l) n n = l := by
  have b := beVal_bound n l hn ho
  have e : (2 : Int) ^ (8 * n) = 256 ^ n := by rw [Int.pow_mul]; rfl
  refine beVal_inj (by rw [bePre_len, hn]) (bePre_bd _ _ _) ho ?_
  have := beVal_pre (beVal l) n n (Nat.le_refl _) b.1 (by rw [e]; exact b.2)
  simpa using this
/-- One behind the other. -/
def rd2 {α β : Type} (f : List Int → Bool → α × List Int × Bool) (g : List Int → Bool → β × List Int × Bool) (xs : List Int) (b : Bool) : (α × β) × List Int × Bool :=
  (((f xs b).1, (g (f xs b).2.1 (f xs b).2.2).1), (g (f xs b).2.1 (f xs b).2.2).2.1, (g (f xs b).2.1 (f xs b).2.2).2.2)
theorem rd2_ok {α β : Type} {f : List Int → Bool → α × List Int × Bool} {g : List Int → Bool → β × List Int × Bool} {e1 : α → List Int} {e2 : β → List Int} {k1 : α → Prop} {k2 : β → Prop} (hf : RdOk f e1 k1) (hg : RdOk g e2 k2) :
    RdOk (rd2 f g) (fun p => e1 p.1 ++ e2 p.2) (fun p => k1 p.1 ∧ k2 p.2) where
  sound xs p ys ho h := by
    obtain ⟨a, b⟩ := p
    unfold rd2 at h
    obtain ⟨⟨a', zs, b1⟩, hr⟩ : ∃ r, f xs false = r := ⟨_, rfl⟩
    rw [hr] at h
    simp only [Prod.mk.injEq] at h
    obtain ⟨⟨rfl, h1⟩, h2, h3⟩ := h
    have hb1 : b1 = false := by
      cases b1 with
      | false => rfl
      | true => rw [hg.sticky] at h3; cases h3
    subst hb1
    obtain ⟨o1, e1'⟩ := hf.sound xs _ _ ho hr
    have ho2 : Oct zs := by have := hf.oct xs false ho; rw [hr] at this; exact this
    obtain ⟨o2, e2'⟩ := hg.sound zs b ys ho2 (by rw [← h1]; exact trip h2 h3)
    refine ⟨⟨o1, o2⟩, ?_⟩
    show xs = (_ ++ _) ++ _
    rw [List.append_assoc, ← e2']; exact e1'
  compl p r h := by
    unfold rd2
    show _ = _
    rw [List.append_assoc, hf.compl p.1 _ h.1]
    simp only [hg.compl p.2 r h.2]
  sticky xs := by
    show (g _ _).2.2 = true
    rw [hf.sticky]; exact hg.sticky _
  oct xs b ho := hg.oct _ _ (hf.oct _ _ ho)
/-- What is read is told otherwise. -/
def rdMap {α β : Type} (f : List Int → Bool → α × List Int × Bool) (φ : α → β) (xs : List Int) (b : Bool) : β × List Int × Bool := (φ (f xs b).1, (f xs b).2.1, (f xs b).2.2)
theorem rdMap_ok {α β : Type} {f : List Int → Bool → α × List Int × Bool} {e : α → List Int} {k : α → Prop} {φ : α → β} {e' : β → List Int} {k' : β → Prop} (hf : RdOk f e k) (ψ : β → α) (h1 : ∀ b, φ (ψ b) = b) (he : ∀ a, e' (φ a) = e a) (hk : ∀ a, k' (φ a) ↔ k a) :
    RdOk (rdMap f φ) e' k' where
  sound xs b ys ho h := by
    unfold rdMap at h
    simp only [Prod.mk.injEq] at h
    obtain ⟨rfl, h2, h3⟩ := h
    obtain ⟨o, e1⟩ := hf.sound xs (f xs false).1 ys ho (trip h2 h3)
    exact ⟨(hk _).2 o, by rw [he]; exact e1⟩
  compl b r h := by
    unfold rdMap
    have e1 : e' b = e (ψ b) := by rw [← he, h1]
    have k1 : k (ψ b) := by rw [← hk, h1]; exact h
    rw [e1, hf.compl _ r k1, h1]
  sticky xs := hf.sticky xs
  oct xs b ho := hf.oct xs b ho
/-- A text. -/
def rdTw (xs : List Int) (bad : Bool) : ByteArray × List Int × Bool := (strOfNums (textR xs).1, xs.drop (textR xs).2.1.toNat, bad || decide ((textR xs).2.2 ≠ 0))
def TxV (s : ByteArray) : Prop := s.size ≤ 1048576
theorem txW_str {l : List Int} (h : Oct l) : txW (strOfNums l) = l := by
  unfold txW
  rw [strOfNums_data, List.map_map]
  conv => rhs; rw [← List.map_id l]
  refine List.map_congr_left fun x hx => ?_
  have := h x hx
  simp only [Function.comp, id]
  rw [UInt8.toNat_ofNat']
  omega
theorem str_txW (s : ByteArray) : strOfNums (txW s) = s := txW_inj (txW_str (txW_oct s))
theorem rdTw_ok : RdOk rdTw encT TxV where
  sound xs s ys ho h := by
    unfold rdTw at h
    simp only [Prod.mk.injEq, Bool.false_or, decide_eq_false_iff_not, ne_eq, Decidable.not_not] at h
    obtain ⟨h1, h2, h3⟩ := h
    obtain ⟨⟨r, n, e⟩, hr⟩ : ∃ r, takeV xs = r := ⟨_, rfl⟩
    have ht := textR_eq xs hr
    by_cases he : e ≠ 0
    · rw [if_pos he] at ht; rw [ht] at h3; exact absurd h3 he
    rw [if_neg he] at ht
    have he0 : e = 0 := by omega
    subst he0
    obtain ⟨v, hv, e1, rfl, rfl⟩ := takeV_sound ho hr
    by_cases h5 : (1048576 : Int) < v
    · rw [if_pos h5] at ht; rw [ht] at h3; simp at h3
    rw [if_neg h5] at ht
    by_cases h6 : (xs.length : Int) - (varN v).length < v
    · rw [if_pos h6] at ht; rw [ht] at h3; simp at h3
    rw [if_neg h6] at ht
    rw [ht] at h1 h2
    dsimp only at h1 h2
    rw [Int.toNat_natCast, Int.toNat_natCast] at h1
    rw [Int.toNat_natCast] at e1
    rw [show (((varN v).length : Int) + (v : Int)).toNat = (varN v).length + v by omega] at h2
    obtain ⟨t, htt⟩ : ∃ t, (xs.drop (varN v).length).take v = t := ⟨_, rfl⟩
    rw [htt] at h1
    have hto : Oct t := by rw [← htt]; exact (ho.drop _).take _
    have htl : t.length = v := by rw [← htt, List.length_take, List.length_drop]; omega
    have hw : txW s = t := by rw [← h1]; exact txW_str hto
    have hsz : s.size = v := by rw [← txW_len, hw, htl]
    refine ⟨by show s.size ≤ _; omega, ?_⟩
    unfold encT
    rw [hsz, hw, List.append_assoc]
    conv => lhs; rw [e1]
    congr 1
    rw [← htt, ← h2, ← List.drop_drop, List.take_append_drop]
  compl s r h := by
    have hs : s.size ≤ 1048576 := h
    have ht : takeV (encT s ++ r) = ((s.size : Int), ((varN s.size).length : Int), 0) := by
      unfold encT; rw [List.append_assoc]; exact takeV_var _ (by omega) _
    have hl : (encT s ++ r).length = (varN s.size).length + s.size + r.length := by unfold encT; simp only [List.length_append, txW_len]
    have hx := textR_eq _ ht
    rw [if_neg (by decide), if_neg (by omega), if_neg (by rw [hl]; push_cast; omega)] at hx
    rw [Int.toNat_natCast, Int.toNat_natCast] at hx
    have hd : (encT s ++ r).drop (varN s.size).length = txW s ++ r := by unfold encT; rw [List.append_assoc, List.drop_left]
    rw [hd, List.take_left' (txW_len s)] at hx
    unfold rdTw
    rw [hx]
    dsimp only
    rw [str_txW, show (((varN s.size).length : Int) + (s.size : Int)).toNat = (encT s).length by unfold encT; rw [List.length_append, txW_len]; omega, List.drop_left]
    simp
  sticky xs := by simp [rdTw]
  oct xs b ho := ho.drop _
end Go.Proofs.YtbnndbdnejfehaaGreatDoor
/- Wire: package wire's reader: texts; a list by whatever closure. -/
namespace Go.Proofs.YtbnndbdnejfehaaGreatDoor
open Go.ChangeShapes Go.WideShapes Go.ChangeAt Go.RowKit

end Go.Proofs.YtbnndbdnejfehaaGreatDoor
/- Wire: closures of package wire's reader that read one thing and append it. -/
namespace Go.Proofs.YtbnndbdnejfehaaGreatDoor
open Go.ChangeShapes Go.WideShapes Go.ChangeAt Go.RowKit

def VeV (x : VeX) : Prop := (In64 x.w ∧ In64 x.t) ∧ True ∧ TxV x.d
/-- Below base all but two blocks are as they were. -/
def KpB (base R g : Nat) (w w' : World) : Prop := ∀ k, k < base → k ≠ R → k ≠ g → w'.heap[k]? = w.heap[k]?
theorem KpB.trans {base R g : Nat} {w w1 w2 : World} (h : KpB base R g w w1) (k : KpB base R g w1 w2) : KpB base R g w w2 := fun i h1 h2 h3 => (k i h1 h2 h3).trans (h i h1 h2 h3)
/-- Where they lie. -/
structure LsP (n R T g base : Nat) : Prop where
  ng : n ≤ g
  rt : R < T
  rg : R < g
  gt : g ≠ T
  gb : g < base
  tb : T < base
end Go.Proofs.YtbnndbdnejfehaaGreatDoor
/- Wire: readers, the plain law: cells, states, commands, joints. -/
namespace Go.Proofs.YtbnndbdnejfehaaGreatDoor

def LkV (x : CeX) : Prop := (In64 x.yn ∧ In64 x.yl ∧ In64 x.ys ∧ In64 x.ya) ∧ In64 x.hm ∧ (In64 x.sw ∧ In64 x.st) ∧ True ∧ TxV x.ld
/-- A cell that bytes may say: without a lock, its lock is zero. -/
structure CeV (x : CeX) : Prop where
  k : TxV x.k
  n : x.vs.length ≤ 65536
  vs : ∀ v ∈ x.vs, VeV v
  l : x.lk = true → LkV x
  z : x.lk = false → x = ⟨x.k, x.vs, false, 0, 0, 0, 0, 0, 0, 0, false, ⟨#[]⟩⟩
/-- Two bytes. -/
def rd16 (xs : List Int) (bad : Bool) : Int × List Int × Bool := (if 2 ≤ xs.length then beVal (xs.take 2) else 0, xs.drop 2, bad || decide (xs.length < 2))
theorem rd16_ok : RdOk rd16 put2 In16 where
  sound xs a ys ho h := by
    unfold rd16 at h
    simp only [Prod.mk.injEq, Bool.false_or, decide_eq_false_iff_not] at h
    obtain ⟨h1, h2, h3⟩ := h
    rw [if_pos (by omega)] at h1
    have hl : (xs.take 2).length = 2 := by rw [List.length_take]; omega
    have hb := beVal_bound 2 _ hl (ho.take 2)
    have p := pre_val hl (ho.take 2)
    have e2 : (256 : Int) ^ 2 = 65536 := by decide
    refine ⟨⟨by omega, by omega⟩, ?_⟩
    unfold put2
    rw [← h1, ← h2]
    have p' : bePre (beVal (xs.take 2)) 2 2 = xs.take 2 := p
    rw [p', List.take_append_drop]
  compl a r h := by
    unfold rd16
    have hl : (put2 a ++ r).length = 2 + r.length := by rw [List.length_append, put2_len]
    have ht : (put2 a ++ r).take 2 = put2 a := List.take_left' (put2_len a)
    have hd : (put2 a ++ r).drop 2 = r := List.drop_left' (put2_len a)
    rw [if_pos (by omega), ht, hd]
    have hv : beVal (put2 a) = a := by
      have := beVal_pre a 2 2 (Nat.le_refl _) h.1 (by have := h.2; show a < 2 ^ 16; omega)
      unfold put2
      simpa using this
    rw [hv]
    simp only [Prod.mk.injEq, Bool.false_or, decide_eq_false_iff_not, true_and]
    omega
  sticky xs := by simp [rd16]
  oct xs b ho := ho.drop _
def rdCf : List Int → Bool → CfX × List Int × Bool := rdMap (rd2 rd16 (rd2 rd16 (rd2 rd16 (rd2 rdNw rdNw)))) fun p => ⟨p.1, p.2.1, p.2.2.1, p.2.2.2.1, p.2.2.2.2⟩
theorem rdCf_ok : RdOk rdCf encCf CfF :=
  rdMap_ok (rd2_ok rd16_ok (rd2_ok rd16_ok (rd2_ok rd16_ok (rd2_ok rdNw_ok rdNw_ok)))) (fun c => (c.v, c.x, c.l, c.e, c.k)) (fun _ => rfl) (fun a => by simp [encCf]) (fun _ => ⟨fun c => ⟨c.v, c.x, c.l, c.e, c.k⟩, fun c => ⟨c.1, c.2.1, c.2.2.1, c.2.2.2.1, c.2.2.2.2⟩⟩)
def rdJo : List Int → Bool → JoX × List Int × Bool := rdMap (rd2 rdCf (rd2 rdCf rdFw)) fun p => ⟨p.1, p.2.1, p.2.2⟩
theorem rdJo_ok : RdOk rdJo encJo JoF :=
  rdMap_ok (rd2_ok rdCf_ok (rd2_ok rdCf_ok rdFw_ok)) (fun j => (j.o, j.n, j.two)) (fun _ => rfl) (fun a => by simp [encJo]) (fun _ => ⟨fun c => ⟨c.o, c.n, trivial⟩, fun c => ⟨c.1, c.2.1⟩⟩)
end Go.Proofs.YtbnndbdnejfehaaGreatDoor
/- Wire: the reference's reader, the plain law: it stays where it is when it cannot go on. -/
namespace Go.Proofs.YtbnndbdnejfehaaGreatDoor

/-- A reader that tells the same wherever one of the two can read is as good. -/
theorem RdOk.like {α : Type} {f g : List Int → Bool → α × List Int × Bool} {e : α → List Int} {k : α → Prop} (hf : RdOk f e k) (h1 : ∀ xs, (g xs false).2.2 = false → g xs false = f xs false) (h2 : ∀ xs, (f xs false).2.2 = false → g xs false = f xs false) (hs : ∀ xs, (g xs true).2.2 = true) (ho : ∀ xs b, Oct xs → Oct (g xs b).2.1) : RdOk g e k where
  sound xs a ys hx h := hf.sound xs a ys hx (by rw [← h1 xs (by rw [h])]; exact h)
  compl a r ha := by
    have h := hf.compl a r ha
    rw [h2 _ (by rw [h])]; exact h
  sticky := hs
  oct := ho
/-- It stays where it is when it cannot go on. -/
def stick {α : Type} (f : List Int → Bool → α × List Int × Bool) (a0 : α) (xs : List Int) (b : Bool) : α × List Int × Bool := if (f xs b).2.2 = true then (a0, xs, true) else f xs b
theorem stick_bad {α : Type} {f : List Int → Bool → α × List Int × Bool} {a0 : α} {xs : List Int} {b : Bool} (h : (f xs b).2.2 = true) : stick f a0 xs b = (a0, xs, true) := if_pos h
theorem stick_good {α : Type} {f : List Int → Bool → α × List Int × Bool} {a0 : α} {xs : List Int} {b : Bool} (h : (f xs b).2.2 = false) : stick f a0 xs b = f xs b := if_neg (by rw [h]; decide)
theorem stick_eq {α : Type} {f : List Int → Bool → α × List Int × Bool} {a0 : α} {xs : List Int} {b : Bool} (h : (stick f a0 xs b).2.2 = false) : stick f a0 xs b = f xs b := by
  cases hb : (f xs b).2.2 with
  | false => exact stick_good hb
  | true => rw [stick_bad hb] at h; cases h
theorem stick_ok {α : Type} {f : List Int → Bool → α × List Int × Bool} {e : α → List Int} {k : α → Prop} (hf : RdOk f e k) (a0 : α) : RdOk (stick f a0) e k :=
  hf.like (fun _ h => stick_eq h) (fun _ h => stick_good h) (fun xs => by rw [stick_bad (hf.sticky xs)]) (fun xs b ho => by
    cases hb : (f xs b).2.2 with
    | false => rw [stick_good hb]; exact hf.oct xs b ho
    | true => rw [stick_bad hb]; exact ho)
end Go.Proofs.YtbnndbdnejfehaaGreatDoor
/- Hard: the plain law: records that are read, and what they do to a core. -/
namespace Go.Proofs.YtbnndbdnejfehaaGreatDoor

/-- Two readers of the same bytes tell the same, where all is read. -/
theorem RdOk.all {α : Type} {f g : List Int → Bool → α × List Int × Bool} {e : α → List Int} {k : α → Prop} (hf : RdOk f e k) (hg : RdOk g e k) {xs : List Int} (ho : Oct xs) (h : (f xs false).2 = ([], false)) : g xs false = f xs false := by
  obtain ⟨a, ha⟩ : ∃ a, f xs false = (a, [], false) := ⟨(f xs false).1, by rw [← h]⟩
  obtain ⟨h1, h2⟩ := hf.sound xs a [] ho ha
  rw [ha, h2]; exact hg.compl a [] h1
/-- A second thing, if the first one asks for it. -/
def rdIf {α β : Type} (f : List Int → Bool → α × List Int × Bool) (c : α → Bool) (g : List Int → Bool → β × List Int × Bool) (b0 : β) (xs : List Int) (b : Bool) : (α × β) × List Int × Bool :=
  if c (f xs b).1 = true then (((f xs b).1, (g (f xs b).2.1 (f xs b).2.2).1), (g (f xs b).2.1 (f xs b).2.2).2.1, (g (f xs b).2.1 (f xs b).2.2).2.2) else (((f xs b).1, b0), (f xs b).2.1, (f xs b).2.2)
/-- A number that is none but from 0 to the greatest one. -/
def CnV (v : Int) : Prop := 0 ≤ v ∧ v ≤ 1125899906842624
theorem CnV.i64 {v : Int} (h : CnV v) : In64 v := by unfold CnV at h; unfold In64; omega
def hrC (xs : List Int) (b : Bool) : Int × List Int × Bool := ((rdNw xs b).1, (rdNw xs b).2.1, (rdNw xs b).2.2 || decide ((rdNw xs b).1 < 0) || decide (1125899906842624 < (rdNw xs b).1))
theorem hrC_ok : RdOk hrC encN CnV where
  sound xs a ys ho h := by
    unfold hrC at h
    simp only [Prod.mk.injEq, Bool.or_eq_false_iff, decide_eq_false_iff_not] at h
    obtain ⟨h1, h2, ⟨h3, h4⟩, h5⟩ := h
    obtain ⟨-, k⟩ := rdNw_ok.sound xs a ys ho (by rw [← h1]; exact trip h2 h3)
    exact ⟨⟨by omega, by omega⟩, k⟩
  compl a r h := by
    unfold hrC
    rw [rdNw_ok.compl a r h.i64]
    have h1 : decide (a < 0) = false := by have := h.1; simp; omega
    have h2 : decide (1125899906842624 < a) = false := by have := h.2; simp; omega
    simp only [h1, h2, Bool.or_false]
  sticky xs := by unfold hrC; rw [rdNw_ok.sticky]; rfl
  oct xs b ho := rdNw_ok.oct xs b ho
/-- A joint. -/
def jo0 : JoX := ⟨⟨0, 0, 0, 0, 0⟩, ⟨0, 0, 0, 0, 0⟩, false⟩
def stJ (xs : List Int) : JoX × List Int × Bool := stick rdJo jo0 xs false
def hrJ (xs : List Int) (b : Bool) : JoX × List Int × Bool := ((stJ xs).1, (stJ xs).2.1, b || (stJ xs).2.2)
theorem hrJ_false (xs : List Int) : hrJ xs false = stJ xs := by
  unfold hrJ
  rw [Bool.false_or]
theorem stJ_ok : RdOk (stick rdJo jo0) encJo JoF := stick_ok rdJo_ok jo0
theorem hrJ_true (xs : List Int) : (hrJ xs true).2.2 = true := by simp only [hrJ, Bool.true_or]
theorem hrJ_rest (xs : List Int) (b : Bool) : (hrJ xs b).2.1 = (stick rdJo jo0 xs false).2.1 := by simp only [hrJ, stJ]
theorem hrJ_eq (xs : List Int) : hrJ xs false = stick rdJo jo0 xs false := hrJ_false xs
theorem hrJ_ok : RdOk hrJ encJo JoF :=
  ⟨fun xs a ys ho h => stJ_ok.sound xs a ys ho (by rw [hrJ_eq] at h; exact h), fun a r h => by rw [hrJ_eq]; exact stJ_ok.compl a r h, hrJ_true, fun xs b ho => by rw [hrJ_rest]; exact stJ_ok.oct xs false ho⟩
/-- A record of a range, behind its letter and the range. -/
inductive Rc
  | hd (tm vt : Int)
  | sn (b bt : Int) (j : JoX) (s : ByteArray)
  | en (i : Int) (e : Ent)
  | ct (i : Int)
def jnX (j : JoX) : Jn := ⟨j.o.v, j.o.x, j.o.l, j.o.e, j.o.k, j.n.v, j.n.x, j.n.l, j.n.e, j.n.k, j.two⟩
abbrev RdT (α : Type) := List Int → Bool → α × List Int × Bool
def hdB : RdT (Int × Int) := rd2 hrC hrC
def snB : RdT (Int × Int × JoX × ByteArray) := rd2 hrC (rd2 hrC (rd2 hrJ rdTw))
def enB : RdT ((Int × Int × Int × ByteArray) × JoX) := rdIf (rd2 hrC (rd2 hrC (rd2 rdNw rdTw))) (fun p => decide (p.2.2.1 = 2)) hrJ jo0
def enE (p : (Int × Int × Int × ByteArray) × JoX) : Ent := ⟨p.1.2.1, p.1.2.2.1, p.1.2.2.2, jnX p.2⟩
def allR {α : Type} (r : α × List Int × Bool) (f : α → Rc) : Option Rc := if r.2 = ([], false) then some (f r.1) else none
def sayB (c : Int) (xs : List Int) : Option Rc :=
  if c = 72 then allR (hdB xs false) fun p => .hd p.1 p.2
  else if c = 83 then allR (snB xs false) fun p => .sn p.1 p.2.1 p.2.2.1 p.2.2.2
  else if c = 69 then allR (enB xs false) fun p => .en p.1.1 (enE p)
  else if c = 88 then allR (hrC xs false) fun p => .ct p
  else none
/-- What a record does to a core. -/
def snL (l : Lg) (b bt : Int) (j : Jn) : Lg := ⟨b, bt, j, if (compactL l b).2 = 0 ∧ (compactL l b).1.bt = bt then (compactL l b).1.es else []⟩
def apRc (c : Co) : Rc → Co
  | .hd tm vt => { c with tm := tm, vt := vt }
  | .sn b bt j s => { c with l := snL c.l b bt (jnX j), sn := s }
  | .en i e => if c.l.b < i ∧ i ≤ c.l.last + 1 then { c with l := { c.l with es := c.l.es.take (i - c.l.b - 1).toNat ++ [e] } } else c
  | .ct i => { c with l := { c.l with es := c.l.es.take (i - c.l.b).toNat } }
def newCo (id : Int) (j : Jn) : Co := { co0 with id := id, l := { lg0 with j := j } }
end Go.Proofs.YtbnndbdnejfehaaGreatDoor
/- Hard: package hard's reader: its block. -/
namespace Go.Proofs.YtbnndbdnejfehaaGreatDoor
open Go.ChangeShapes Go.WideShapes Go.ChangeAt Go.RowKit

end Go.Proofs.YtbnndbdnejfehaaGreatDoor
/- Wire: package wire's readers of lists of outcomes, of cells. -/
namespace Go.Proofs.YtbnndbdnejfehaaGreatDoor
open Go.ChangeShapes Go.WideShapes Go.ChangeAt Go.RowKit

end Go.Proofs.YtbnndbdnejfehaaGreatDoor
/- Wire: package wire's closure that reads a cell and appends it. -/
namespace Go.Proofs.YtbnndbdnejfehaaGreatDoor
open Go.ChangeShapes Go.WideShapes Go.ChangeAt Go.RowKit

end Go.Proofs.YtbnndbdnejfehaaGreatDoor
/- Wire: rows of the call's own as lists; what reading a command, a state tells. -/
namespace Go.Proofs.YtbnndbdnejfehaaGreatDoor
open Go.ChangeShapes Go.WideShapes Go.ChangeAt Go.RowKit

end Go.Proofs.YtbnndbdnejfehaaGreatDoor
/- Wire: package wire's readers of joints. -/
namespace Go.Proofs.YtbnndbdnejfehaaGreatDoor
open Go.ChangeShapes Go.WideShapes Go.ChangeAt Go.RowKit

end Go.Proofs.YtbnndbdnejfehaaGreatDoor
/- Hard: package hard's reader: its steps. -/
namespace Go.Proofs.YtbnndbdnejfehaaGreatDoor
open Go.ChangeShapes Go.WideShapes Go.ChangeAt Go.RowKit

end Go.Proofs.YtbnndbdnejfehaaGreatDoor
