/- Wire: readers, the plain law: what reads is what was written, and what was written is read. -/
import Derived.Test.YtmhmlpfkdpjlaaaWireE
import Derived.Test.YtmhmlpfkdpjlaaaWireF
import Derived.Test.YtmhmlpfkdpjlaaaTakeT
namespace Go.Proofs.Ytmhmlpfkdpjlaaa

def Oct (xs : List Int) : Prop := ∀ x ∈ xs, 0 ≤ x ∧ x ≤ 255
theorem Oct.drop {xs : List Int} (h : Oct xs) (n : Nat) : Oct (xs.drop n) := fun x hx => h x (List.mem_of_mem_drop hx)
theorem Oct.take {xs : List Int} (h : Oct xs) (n : Nat) : Oct (xs.take n) := fun x hx => h x (List.mem_of_mem_take hx)
theorem Oct.tail {x : Int} {xs : List Int} (h : Oct (x :: xs)) : Oct xs := fun y hy => h y (List.mem_cons_of_mem _ hy)
/-- What a number was read out of. -/
theorem takeGo_sound : ∀ (xs : List Int) (i : Nat) (a u r n : Int), Oct xs → i ≤ 9 → takeGo xs i a u = (r, n, 0) →
    ∃ v : Nat, xs = varN v ++ xs.drop (varN v).length ∧ r = a + v * u ∧ n = ((i + (varN v).length : Nat) : Int) ∧ (v = 0 → i = 0) ∧ v < 128 ^ (9 - i) * 2
  | [], i, a, u, r, n, _, _, h => by simp [takeGo] at h
  | c :: cs, i, a, u, r, n, ho, hi, h => by
    have hc := ho c (by simp)
    unfold takeGo at h
    by_cases h1 : i = 9 ∧ 1 < c
    · rw [if_pos h1] at h; simp at h
    rw [if_neg h1] at h
    by_cases h2 : 128 ≤ c
    · rw [if_pos h2] at h
      have hi8 : i ≤ 8 := by omega
      obtain ⟨v, e1, e2, e3, e4, e5⟩ := takeGo_sound cs (i + 1) _ _ r n ho.tail (by omega) h
      have hv0 : 0 < v := by
        rcases Nat.eq_zero_or_pos v with h0 | h0
        · have := e4 h0; omega
        · exact h0
      obtain ⟨k, hk⟩ : ∃ k : Nat, c = 128 + k ∧ k < 128 := ⟨(c - 128).toNat, by omega, by omega⟩
      obtain ⟨hk, hk2⟩ := hk
      have hstep : varN (v * 128 + k) = c :: varN v := by
        rw [varN_step _ (by omega), show (v * 128 + k) % 128 = k by omega, show (v * 128 + k) / 128 = v by omega]
        congr 1; omega
      refine ⟨v * 128 + k, ?_, ?_, ?_, by omega, ?_⟩
      · rw [hstep, List.length_cons, List.drop_succ_cons, List.cons_append, ← e1]
      · rw [e2, hk, show (128 + (k : Int)) % 128 = k by omega]
        push_cast
        rw [Int.add_mul, show (v : Int) * (u * 128) = (v : Int) * 128 * u by rw [Int.mul_assoc, Int.mul_comm 128 u]]
        omega
      · rw [e3, hstep, List.length_cons]; push_cast; omega
      · have : 128 ^ (9 - i) = 128 ^ (9 - (i + 1)) * 128 := by rw [← Nat.pow_succ]; congr 1; omega
        rw [this]; omega
    rw [if_neg h2] at h
    by_cases h3 : c = 0 ∧ 0 < i
    · rw [if_pos h3] at h; simp at h
    rw [if_neg h3] at h
    simp only [Prod.mk.injEq, and_true] at h
    obtain ⟨e1, e2⟩ := h
    obtain ⟨k, hk⟩ : ∃ k : Nat, c = k := ⟨c.toNat, by omega⟩
    subst hk
    have hs := varN_small k (by omega)
    refine ⟨k, by rw [hs]; simp, ?_, by rw [hs, ← e2]; simp, by omega, ?_⟩
    · rw [← e1, show (k : Int) % 128 = k by omega]
    · by_cases h9 : i = 9
      · subst h9; simp; omega
      · have : 128 ^ (9 - i) = 128 ^ (8 - i) * 128 := by rw [← Nat.pow_succ]; congr 1; omega
        have hp : 0 < 128 ^ (8 - i) := Nat.pow_pos (by omega)
        rw [this]; omega
theorem takeV_sound {xs : List Int} {r n : Int} (ho : Oct xs) (h : takeV xs = (r, n, 0)) : ∃ v : Nat, v ≤ 18446744073709551615 ∧ xs = varN v ++ xs.drop n.toNat ∧ r = v ∧ n = ((varN v).length : Int) := by
  obtain ⟨v, e1, e2, e3, _, e5⟩ := takeGo_sound xs 0 0 1 r n ho (by omega) h
  have : 128 ^ (9 - 0) * 2 = 18446744073709551616 := by decide
  refine ⟨v, by omega, ?_, by omega, by omega⟩
  rw [e3, show ((0 + (varN v).length : Nat) : Int).toNat = (varN v).length by omega]; exact e1
theorem zig_zag {u : Int} (h0 : 0 ≤ u) (h1 : u ≤ 18446744073709551615) : zigI (zagI u) = u ∧ In64 (zagI u) := by
  unfold zigI zagI In64
  split <;> split <;> (refine ⟨?_, ?_, ?_⟩ <;> omega)
theorem trip {α β γ : Type} {r : α × β × γ} {y : β} {z : γ} (h2 : r.2.1 = y) (h3 : r.2.2 = z) : r = (r.1, y, z) := by subst h2 h3; rfl
/-- A reader of what enc writes. -/
structure RdOk {α : Type} (f : List Int → Bool → α × List Int × Bool) (enc : α → List Int) (ok : α → Prop) : Prop where
  sound : ∀ xs a ys, Oct xs → f xs false = (a, ys, false) → ok a ∧ xs = enc a ++ ys
  compl : ∀ a r, ok a → f (enc a ++ r) false = (a, r, false)
  sticky : ∀ xs, (f xs true).2.2 = true
  oct : ∀ xs b, Oct xs → Oct (f xs b).2.1
theorem rdNw_ok : RdOk rdNw encN In64 where
  sound xs a ys ho h := by
    unfold rdNw at h
    simp only [Prod.mk.injEq, Bool.false_or, decide_eq_false_iff_not, ne_eq, Decidable.not_not] at h
    obtain ⟨h1, h2, h3⟩ := h
    obtain ⟨r, n, e⟩ : ∃ r n, takeV xs = (r, n, 0) := ⟨_, _, by rw [← h3]⟩
    obtain ⟨v, hv, e1, rfl, rfl⟩ := takeV_sound ho e
    rw [e] at h1 h2
    dsimp only at h1 h2
    have z := zig_zag (u := (v : Int)) (by omega) (by omega)
    rw [h1] at z
    refine ⟨z.2, ?_⟩
    unfold encN
    rw [z.1, Int.toNat_natCast, ← h2, Int.toNat_natCast]
    rw [Int.toNat_natCast] at e1; exact e1
  compl a r h := rdNw_enc h r
  sticky xs := by simp [rdNw]
  oct xs b ho := ho.drop _
theorem rdBw_ok : RdOk rdBw (fun x => [x]) (fun x => 0 ≤ x ∧ x ≤ 255) where
  sound xs a ys ho h := by
    cases xs with
    | nil => simp [rdBw] at h
    | cons x t =>
      simp only [rdBw, Prod.mk.injEq, and_true] at h
      obtain ⟨rfl, rfl⟩ := h
      exact ⟨ho _ (by simp), rfl⟩
  compl a r _ := rfl
  sticky xs := by cases xs <;> rfl
  oct xs b ho := by
    cases xs with
    | nil => exact ho
    | cons x t => exact ho.tail
theorem rdFw_ok : RdOk rdFw encF (fun _ => True) where
  sound xs a ys ho h := by
    unfold rdFw at h
    simp only [Prod.mk.injEq, Bool.or_eq_false_iff, decide_eq_false_iff_not] at h
    obtain ⟨h1, h2, h3, h4⟩ := h
    cases xs with
    | nil => simp [rdBw] at h3
    | cons x t =>
      simp only [rdBw] at h1 h2 h3 h4
      subst h2
      refine ⟨trivial, ?_⟩
      have hx := ho x (by simp)
      unfold encF
      by_cases e : x = 1
      · have ha : a = true := by rw [← h1, e]; rfl
        rw [ha, e]; rfl
      · have h0 : x = 0 := by omega
        have ha : a = false := by rw [← h1, h0]; rfl
        rw [ha, h0]; rfl
  compl a r _ := rdFw_enc a r
  sticky xs := by unfold rdFw; rw [rdBw_ok.sticky]; rfl
  oct xs b ho := rdBw_ok.oct xs b ho
theorem beVal_inj : ∀ {xs ys : List Int}, xs.length = ys.length → Oct xs → Oct ys → beVal xs = beVal ys → xs = ys
  | [], [], _, _, _, _ => rfl
  | [], _ :: _, h, _, _, _ => by simp at h
  | _ :: _, [], h, _, _, _ => by simp at h
  | a :: xs, b :: ys, h, ha, hb, e => by
    have hl : xs.length = ys.length := by simpa using h
    rw [beVal_cons, beVal_cons, ← hl] at e
    have b1 := beVal_bound xs.length xs rfl ha.tail
    have b2 := beVal_bound xs.length ys hl.symm hb.tail
    have a1 := ha a (by simp); have a2 := hb b (by simp)
    have hab : a = b := by
      rcases Int.lt_trichotomy a b with h | h | h
      · have : (a + 1) * 256 ^ xs.length ≤ b * 256 ^ xs.length := Int.mul_le_mul_of_nonneg_right (by omega) (by omega)
        rw [Int.add_mul] at this; omega
      · exact h
      · have : (b + 1) * 256 ^ xs.length ≤ a * 256 ^ xs.length := Int.mul_le_mul_of_nonneg_right (by omega) (by omega)
        rw [Int.add_mul] at this; omega
    subst hab
    rw [beVal_inj hl ha.tail hb.tail (by omega)]
theorem pre_val {l : List Int} {n : Nat} (hn : l.length = n) (ho : Oct l) : bePre (beVal l) n n = l := by
  have b := beVal_bound n l hn ho
  have e : (2 : Int) ^ (8 * n) = 256 ^ n := by rw [Int.pow_mul]; rfl
  refine beVal_inj (by rw [bePre_len, hn]) (bePre_bd _ _ _) ho ?_
  have := beVal_pre (beVal l) n n (Nat.le_refl _) b.1 (by rw [e]; exact b.2)
  simpa using this
theorem rdSw_ok : RdOk rdSw (fun p => stampB p.1 p.2) (fun p => In64 p.1 ∧ In64 p.2) where
  sound xs a ys ho h := by
    obtain ⟨a, b⟩ := a
    unfold rdSw at h
    simp only [Prod.mk.injEq, Bool.false_or, decide_eq_false_iff_not, ne_eq, Decidable.not_not] at h
    obtain ⟨⟨h1, h2⟩, h3, h4⟩ := h
    have hl : (xs.take 16).length = 16 := by
      unfold takeE at h4
      split at h4
      · simp at h4
      · split at h4
        · simp at h4
        · omega
    have hx := ho.take 16
    obtain ⟨t, ht⟩ : ∃ t, xs.take 16 = t := ⟨_, rfl⟩
    have hxt : xs = t ++ ys := by rw [← ht, ← h3, List.take_append_drop]
    rw [ht] at hl hx h1 h2 h4
    unfold takeW at h1; unfold takeT at h2
    rw [if_pos h4, List.drop_zero] at h1
    rw [if_pos h4, List.take_of_length_le (by rw [List.length_drop]; omega)] at h2
    have l1 : (t.take 8).length = 8 := by rw [List.length_take]; omega
    have l2 : (t.drop 8).length = 8 := by rw [List.length_drop]; omega
    have b1 := beVal_bound 8 _ l1 (hx.take 8); have b2 := beVal_bound 8 _ l2 (hx.drop 8)
    have p8 : (256 : Int) ^ 8 = 18446744073709551616 := by decide
    have key : ∀ {u v : Int}, backI u = v → 0 ≤ u → u < 18446744073709551616 → orderI v = u ∧ In64 v := fun {u v} e h0 h1 => by
      unfold backI at e; unfold orderI In64; omega
    obtain ⟨k1, k2⟩ := key h1 b1.1 (by omega)
    obtain ⟨k3, k4⟩ := key h2 b2.1 (by omega)
    refine ⟨⟨k2, k4⟩, ?_⟩
    show xs = stampB a b ++ ys
    unfold stampB
    have p1 := pre_val l1 (hx.take 8); have p2 := pre_val l2 (hx.drop 8)
    rw [k1, k3, hxt]
    congr 1
    conv => lhs; rw [← List.take_append_drop 8 t]
    congr 1
    · exact p1.symm
    · exact p2.symm
  compl a r h := rdSw_enc h.1 h.2 r
  sticky xs := by simp [rdSw]
  oct xs b ho := ho.drop _
/-- One behind the other. -/
def rd2 {α β : Type} (f : List Int → Bool → α × List Int × Bool) (g : List Int → Bool → β × List Int × Bool) (xs : List Int) (b : Bool) : (α × β) × List Int × Bool :=
  (((f xs b).1, (g (f xs b).2.1 (f xs b).2.2).1), (g (f xs b).2.1 (f xs b).2.2).2.1, (g (f xs b).2.1 (f xs b).2.2).2.2)
theorem rd2_ok {α β : Type} {f : List Int → Bool → α × List Int × Bool} {g : List Int → Bool → β × List Int × Bool} {e1 : α → List Int} {e2 : β → List Int} {k1 : α → Prop} {k2 : β → Prop} (hf : RdOk f e1 k1) (hg : RdOk g e2 k2) :
    RdOk (rd2 f g) (fun p => e1 p.1 ++ e2 p.2) (fun p => k1 p.1 ∧ k2 p.2) where
  sound xs p ys ho h := by
    obtain ⟨a, b⟩ := p
    unfold rd2 at h
    obtain ⟨⟨a', zs, b1⟩, hr⟩ : ∃ r, f xs false = r := ⟨_, rfl⟩
    rw [hr] at h
    simp only [Prod.mk.injEq] at h
    obtain ⟨⟨rfl, h1⟩, h2, h3⟩ := h
    have hb1 : b1 = false := by
      cases b1 with
      | false => rfl
      | true => rw [hg.sticky] at h3; cases h3
    subst hb1
    obtain ⟨o1, e1'⟩ := hf.sound xs _ _ ho hr
    have ho2 : Oct zs := by have := hf.oct xs false ho; rw [hr] at this; exact this
    obtain ⟨o2, e2'⟩ := hg.sound zs b ys ho2 (by rw [← h1]; exact trip h2 h3)
    refine ⟨⟨o1, o2⟩, ?_⟩
    show xs = (_ ++ _) ++ _
    rw [List.append_assoc, ← e2']; exact e1'
  compl p r h := by
    unfold rd2
    show _ = _
    rw [List.append_assoc, hf.compl p.1 _ h.1]
    simp only [hg.compl p.2 r h.2]
  sticky xs := by
    show (g _ _).2.2 = true
    rw [hf.sticky]; exact hg.sticky _
  oct xs b ho := hg.oct _ _ (hf.oct _ _ ho)
/-- What is read is told otherwise. -/
def rdMap {α β : Type} (f : List Int → Bool → α × List Int × Bool) (φ : α → β) (xs : List Int) (b : Bool) : β × List Int × Bool := (φ (f xs b).1, (f xs b).2.1, (f xs b).2.2)
theorem rdMap_ok {α β : Type} {f : List Int → Bool → α × List Int × Bool} {e : α → List Int} {k : α → Prop} {φ : α → β} {e' : β → List Int} {k' : β → Prop} (hf : RdOk f e k) (ψ : β → α) (h1 : ∀ b, φ (ψ b) = b) (he : ∀ a, e' (φ a) = e a) (hk : ∀ a, k' (φ a) ↔ k a) :
    RdOk (rdMap f φ) e' k' where
  sound xs b ys ho h := by
    unfold rdMap at h
    simp only [Prod.mk.injEq] at h
    obtain ⟨rfl, h2, h3⟩ := h
    obtain ⟨o, e1⟩ := hf.sound xs (f xs false).1 ys ho (trip h2 h3)
    exact ⟨(hk _).2 o, by rw [he]; exact e1⟩
  compl b r h := by
    unfold rdMap
    have e1 : e' b = e (ψ b) := by rw [← he, h1]
    have k1 : k (ψ b) := by rw [← hk, h1]; exact h
    rw [e1, hf.compl _ r k1, h1]
  sticky xs := hf.sticky xs
  oct xs b ho := hf.oct xs b ho
/-- As many as are told, while it can. -/
def itF {α : Type} (f : List Int → Bool → α × List Int × Bool) : Nat → List Int → Bool → List α × List Int × Bool
  | 0, xs, b => ([], xs, b)
  | n + 1, xs, b => if (itF f n xs b).2.2 = true then itF f n xs b else ((itF f n xs b).1 ++ [(f (itF f n xs b).2.1 (itF f n xs b).2.2).1], (f (itF f n xs b).2.1 (itF f n xs b).2.2).2.1, (f (itF f n xs b).2.1 (itF f n xs b).2.2).2.2)
theorem itF_true {α : Type} (f : List Int → Bool → α × List Int × Bool) (xs : List Int) : ∀ n, itF f n xs true = ([], xs, true)
  | 0 => rfl
  | n + 1 => by rw [itF, itF_true f xs n]; rfl
theorem itF_stop {α : Type} {f : List Int → Bool → α × List Int × Bool} {m : Nat} {xs : List Int} {b : Bool} (h : (itF f m xs b).2.2 = true) : ∀ k, itF f (m + k) xs b = itF f m xs b
  | 0 => rfl
  | k + 1 => by rw [show m + (k + 1) = (m + k) + 1 by omega, itF, itF_stop h k, if_pos h]
theorem itF_oct {α : Type} {f : List Int → Bool → α × List Int × Bool} {e : α → List Int} {k : α → Prop} (hf : RdOk f e k) {xs : List Int} (ho : Oct xs) (b : Bool) : ∀ n, Oct (itF f n xs b).2.1
  | 0 => ho
  | n + 1 => by
    rw [itF]
    split
    · exact itF_oct hf ho b n
    · exact hf.oct _ _ (itF_oct hf ho b n)
theorem itF_sound {α : Type} {f : List Int → Bool → α × List Int × Bool} {e : α → List Int} {k : α → Prop} (hf : RdOk f e k) {xs : List Int} (ho : Oct xs) : ∀ n l ys, itF f n xs false = (l, ys, false) → l.length = n ∧ (∀ a ∈ l, k a) ∧ xs = l.flatMap e ++ ys
  | 0, l, ys, h => by
    simp only [itF, Prod.mk.injEq, and_true] at h
    obtain ⟨rfl, rfl⟩ := h
    exact ⟨rfl, (fun a ha => by cases ha), rfl⟩
  | n + 1, l, ys, h => by
    have o1 := itF_oct hf ho false n
    rw [itF] at h
    obtain ⟨⟨l', zs, b⟩, hr⟩ : ∃ r, itF f n xs false = r := ⟨_, rfl⟩
    rw [hr] at h o1
    cases b with
    | true => simp at h
    | false =>
      rw [if_neg (by simp)] at h
      simp only [Prod.mk.injEq] at h
      obtain ⟨rfl, h2, h3⟩ := h
      obtain ⟨i1, i2, i3⟩ := itF_sound hf ho n l' zs hr
      obtain ⟨j1, j2⟩ := hf.sound zs (f zs false).1 ys o1 (trip h2 h3)
      refine ⟨by rw [List.length_append, i1]; rfl, fun a ha => ?_, ?_⟩
      · rcases List.mem_append.1 ha with h | h
        · exact i2 a h
        · rw [List.mem_singleton] at h; rw [h]; exact j1
      · rw [List.flatMap_append, List.append_assoc, i3]
        congr 1
        simpa using j2
theorem itF_compl {α : Type} {f : List Int → Bool → α × List Int × Bool} {e : α → List Int} {k : α → Prop} (hf : RdOk f e k) {l : List α} (hl : ∀ a ∈ l, k a) (r : List Int) : ∀ n, n ≤ l.length → itF f n (l.flatMap e ++ r) false = (l.take n, (l.drop n).flatMap e ++ r, false)
  | 0, _ => by simp [itF]
  | n + 1, hn => by
    rw [itF, itF_compl hf hl r n (by omega), if_neg (by simp)]
    have hd : l.drop n = l[n] :: l.drop (n + 1) := List.drop_eq_getElem_cons hn
    simp only
    rw [hd, List.flatMap_cons, List.append_assoc, hf.compl _ _ (hl _ (List.getElem_mem hn))]
    simp only [Prod.mk.injEq, and_true]
    rw [List.take_succ_eq_append_getElem hn]
def rdL {α : Type} (f : List Int → Bool → α × List Int × Bool) (xs : List Int) (b : Bool) : List α × List Int × Bool :=
  if (rdNw xs b).1 < 0 ∨ 65536 < (rdNw xs b).1 then ([], (rdNw xs b).2.1, true) else itF f (rdNw xs b).1.toNat (rdNw xs b).2.1 (rdNw xs b).2.2
theorem rdL_ok {α : Type} {f : List Int → Bool → α × List Int × Bool} {e : α → List Int} {k : α → Prop} (hf : RdOk f e k) : RdOk (rdL f) (fun l => encN l.length ++ l.flatMap e) (fun l => l.length ≤ 65536 ∧ ∀ a ∈ l, k a) where
  sound xs l ys ho h := by
    unfold rdL at h
    obtain ⟨⟨n, zs, b⟩, hr⟩ : ∃ r, rdNw xs false = r := ⟨_, rfl⟩
    rw [hr] at h
    have o2 : Oct zs := by have := rdNw_ok.oct xs false ho; rw [hr] at this; exact this
    split at h
    · simp at h
    · rename_i hn
      dsimp only at h hn
      cases b with
      | true => rw [itF_true] at h; simp at h
      | false =>
        obtain ⟨i1, i2, i3⟩ := itF_sound hf o2 _ _ _ h
        obtain ⟨j1, j2⟩ := rdNw_ok.sound xs n zs ho hr
        refine ⟨⟨by omega, i2⟩, ?_⟩
        show xs = (encN l.length ++ _) ++ _
        rw [i1, show ((n.toNat : Nat) : Int) = n by omega, List.append_assoc, ← i3]; exact j2
  compl l r h := by
    unfold rdL
    show _ = _
    rw [List.append_assoc, rdNw_enc ⟨by omega, by have := h.1; omega⟩]
    rw [if_neg (by have := h.1; dsimp only; omega)]
    simp only [Int.toNat_natCast]
    rw [itF_compl hf h.2 r _ (Nat.le_refl _)]
    simp
  sticky xs := by
    unfold rdL
    split
    · rfl
    · have := rdNw_ok.sticky xs
      rw [this, itF_true]
  oct xs b ho := by
    unfold rdL
    split
    · exact rdNw_ok.oct xs b ho
    · exact itF_oct hf (rdNw_ok.oct xs b ho) _ _
/-- A text. -/
def rdTw (xs : List Int) (bad : Bool) : ByteArray × List Int × Bool := (strOfNums (textR xs).1, xs.drop (textR xs).2.1.toNat, bad || decide ((textR xs).2.2 ≠ 0))
def TxV (s : ByteArray) : Prop := s.size ≤ 1048576
theorem txW_str {l : List Int} (h : Oct l) : txW (strOfNums l) = l := by
  unfold txW
  rw [strOfNums_data, List.map_map]
  conv => rhs; rw [← List.map_id l]
  refine List.map_congr_left fun x hx => ?_
  have := h x hx
  simp only [Function.comp, id]
  rw [UInt8.toNat_ofNat']
  omega
theorem str_txW (s : ByteArray) : strOfNums (txW s) = s := txW_inj (txW_str (txW_oct s))
theorem rdTw_ok : RdOk rdTw encT TxV where
  sound xs s ys ho h := by
    unfold rdTw at h
    simp only [Prod.mk.injEq, Bool.false_or, decide_eq_false_iff_not, ne_eq, Decidable.not_not] at h
    obtain ⟨h1, h2, h3⟩ := h
    obtain ⟨⟨r, n, e⟩, hr⟩ : ∃ r, takeV xs = r := ⟨_, rfl⟩
    have ht := textR_eq xs hr
    by_cases he : e ≠ 0
    · rw [if_pos he] at ht; rw [ht] at h3; exact absurd h3 he
    rw [if_neg he] at ht
    have he0 : e = 0 := by omega
    subst he0
    obtain ⟨v, hv, e1, rfl, rfl⟩ := takeV_sound ho hr
    by_cases h5 : (1048576 : Int) < v
    · rw [if_pos h5] at ht; rw [ht] at h3; simp at h3
    rw [if_neg h5] at ht
    by_cases h6 : (xs.length : Int) - (varN v).length < v
    · rw [if_pos h6] at ht; rw [ht] at h3; simp at h3
    rw [if_neg h6] at ht
    rw [ht] at h1 h2
    dsimp only at h1 h2
    rw [Int.toNat_natCast, Int.toNat_natCast] at h1
    rw [Int.toNat_natCast] at e1
    rw [show (((varN v).length : Int) + (v : Int)).toNat = (varN v).length + v by omega] at h2
    obtain ⟨t, htt⟩ : ∃ t, (xs.drop (varN v).length).take v = t := ⟨_, rfl⟩
    rw [htt] at h1
    have hto : Oct t := by rw [← htt]; exact (ho.drop _).take _
    have htl : t.length = v := by rw [← htt, List.length_take, List.length_drop]; omega
    have hw : txW s = t := by rw [← h1]; exact txW_str hto
    have hsz : s.size = v := by rw [← txW_len, hw, htl]
    refine ⟨by show s.size ≤ _; omega, ?_⟩
    unfold encT
    rw [hsz, hw, List.append_assoc]
    conv => lhs; rw [e1]
    congr 1
    rw [← htt, ← h2, ← List.drop_drop, List.take_append_drop]
  compl s r h := by
    have hs : s.size ≤ 1048576 := h
    have ht : takeV (encT s ++ r) = ((s.size : Int), ((varN s.size).length : Int), 0) := by
      unfold encT; rw [List.append_assoc]; exact takeV_var _ (by omega) _
    have hl : (encT s ++ r).length = (varN s.size).length + s.size + r.length := by unfold encT; simp only [List.length_append, txW_len]
    have hx := textR_eq _ ht
    rw [if_neg (by decide), if_neg (by omega), if_neg (by rw [hl]; push_cast; omega)] at hx
    rw [Int.toNat_natCast, Int.toNat_natCast] at hx
    have hd : (encT s ++ r).drop (varN s.size).length = txW s ++ r := by unfold encT; rw [List.append_assoc, List.drop_left]
    rw [hd, List.take_left' (txW_len s)] at hx
    unfold rdTw
    rw [hx]
    dsimp only
    rw [str_txW, show (((varN s.size).length : Int) + (s.size : Int)).toNat = (encT s).length by unfold encT; rw [List.length_append, txW_len]; omega, List.drop_left]
    simp
  sticky xs := by simp [rdTw]
  oct xs b ho := ho.drop _
end Go.Proofs.Ytmhmlpfkdpjlaaa
