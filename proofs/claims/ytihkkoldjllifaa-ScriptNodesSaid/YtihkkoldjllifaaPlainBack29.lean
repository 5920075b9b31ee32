/- Script: the plain law: what some bytes say is said by the bytes that are made of it; which nodes are named. -/
import Derived.Test.YtihkkoldjllifaaPlainEncS
namespace Go.Proofs.Ytihkkoldjllifaa

theorem nodeB_back {m : Int} (h0 : 0 ≤ m) (h8 : m ≤ 8) : nodeB (m + 1) = m := by
  unfold nodeB; rw [IntKind.wrap_u8, IntKind.wrap_i64]; omega
theorem u8w_back {x : Int} (h0 : 0 ≤ x) (h : x ≤ 255) : u8w x = x := by unfold u8w; rw [IntKind.wrap_u8]; omega
/-- Bytes that make one event again. -/
structure Back (e : Ev) (n : Nat) : Prop where
  long : longR (progB e) = (progB e).length
  one : oneR 9 (progB e) = e
  short : (progB e).length ≤ n
  kind : (progB e).getD 0 0 % 16 ≠ 15
  pos : 0 < (progB e).length
theorem back_text {x a b : Int} {t : List Int} (hx : Oct (x :: a :: b :: t)) (hk : x % 16 = 10) (hl : t.length = b.toNat) : Back (oneR 9 (x :: a :: b :: t)) (x :: a :: b :: t).length := by
  have fa := hx a (by simp)
  have fb := hx b (by simp)
  have ft : Oct t := fun y hy => hx y (by simp [hy])
  have e : oneR 9 (x :: a :: b :: t) = evO 6 (a % 9 + 1) 0 0 (strOfNums t) [] := by
    unfold oneR; simp only [List.getD_cons_zero, hk]; simp
  have hm := nodeB_back (m := a % 9) (by omega) (by omega)
  have hs : (strOfNums t).size = t.length := strOfNums_size t
  have hb : u8w ((strOfNums t).size : Int) = b := by rw [hs, hl]; rw [show ((b.toNat : Nat) : Int) = b by omega]; exact u8w_back fb.1 fb.2
  have htx : txt (strOfNums t) = t := by
    unfold txt
    rw [strOfNums_data, List.map_map]
    conv => rhs; rw [← List.map_id t]
    refine List.map_congr_left fun y hy => ?_
    have := ft y hy
    show ((UInt8.ofNat y.toNat).toNat : Int) = y
    rw [UInt8.toNat_ofNat']
    omega
  have hp : progB (oneR 9 (x :: a :: b :: t)) = 10 :: (a % 9) :: b :: t := by
    rw [e]; unfold progB; simp only [evO, hm, hb, htx]; simp
  rw [e] at hp ⊢
  have hL : longR (10 :: (a % 9) :: b :: t) = 3 + t.length := by rw [hl]; simp [longR]; omega
  refine ⟨by rw [hp, hL]; simp; omega, ?_, by rw [hp]; simp, by rw [hp]; simp, by rw [hp]; simp⟩
  rw [hp]; unfold oneR; simp
theorem back_one {xs : List Int} (hx : Oct xs) (hne : xs ≠ []) (hl : xs.length = longR xs) (hk : xs.getD 0 0 % 16 ≠ 15) : Back (oneR 9 xs) xs.length := by
  cases xs with
  | nil => exact absurd rfl hne
  | cons x t =>
    have h0 := (hx x (by simp)).1
    simp only [List.getD_cons_zero] at hk
    by_cases h10 : x % 16 = 10
    · match t, hx, hl with
      | [], hx, hl => simp [longR, h10] at hl
      | [a], hx, hl => simp [longR, h10] at hl
      | a :: b :: t, hx, hl =>
        have fb := hx b (by simp)
        refine back_text hx h10 ?_
        have : longR (x :: a :: b :: t) = 3 + b.toNat := by simp [longR, h10]; omega
        rw [this] at hl
        simp at hl; omega
    · have hL : longR (x :: t) = longF (x % 16) (x :: t).length ((x :: t).getD 2 0) := rfl
      rw [hL] at hl
      rcases k_cases h0 with h | h | h | h | h | h | h | h | h | h | h | h | h | h | h | h
      all_goals first
        | exact absurd h h10
        | exact absurd h hk
        | skip
      all_goals
        rw [h] at hl
        simp [longF] at hl
      all_goals
        first
        | (match t, hx, hl with
           | [a], hx, _ =>
             have fa := hx a (by simp)
             have hm := nodeB_back (m := a % 9) (by omega) (by omega)
             have ha := u8w_back fa.1 fa.2
             refine ⟨?_, ?_, ?_, ?_, ?_⟩ <;> simp [oneR, h, evO, progB, hm, ha, longR])
        | (match t, hx, hl with
           | [a, b], hx, _ =>
             have fa := hx a (by simp)
             have fb := hx b (by simp)
             have hm := nodeB_back (m := a % 9) (by omega) (by omega)
             have hb := u8w_back fb.1 fb.2
             refine ⟨?_, ?_, ?_, ?_, ?_⟩ <;> simp [oneR, h, evO, progB, hm, hb, longR])
        | (match t, hx, hl with
           | [a, b, c], hx, _ =>
             have fa := hx a (by simp)
             have fb := hx b (by simp)
             have fc := hx c (by simp)
             have hm := nodeB_back (m := a % 9) (by omega) (by omega)
             have hb := u8w_back fb.1 fb.2
             have hc := u8w_back fc.1 fc.2
             have h1 : u8w ((b * 256 + c) / 256) = b := by unfold u8w; rw [IntKind.wrap_u8]; omega
             have h2 : u8w (b * 256 + c) = c := by unfold u8w; rw [IntKind.wrap_u8]; omega
             refine ⟨?_, ?_, ?_, ?_, ?_⟩ <;> simp [oneR, h, evO, progB, hm, hb, hc, h1, h2, longR])
        | (match t, hx, hl with
           | [a, b, c, d], hx, _ =>
             have fa := hx a (by simp)
             have fb := hx b (by simp)
             have fc := hx c (by simp)
             have fd := hx d (by simp)
             have hm := nodeB_back (m := a % 9) (by omega) (by omega)
             have hb := u8w_back fb.1 fb.2
             have h1 : u8w ((c * 256 + d) / 256) = c := by unfold u8w; rw [IntKind.wrap_u8]; omega
             have h2 : u8w (c * 256 + d) = d := by unfold u8w; rw [IntKind.wrap_u8]; omega
             refine ⟨?_, ?_, ?_, ?_, ?_⟩ <;> simp [oneR, h, evO, progB, hm, hb, h1, h2, longR])
theorem long_app {xs ys : List Int} (hl : longR xs = xs.length) (hp : 0 < xs.length) : longR (xs ++ ys) = xs.length := by
  rw [longR_eq] at hl ⊢
  have e0 : (xs ++ ys).getD 0 0 = xs.getD 0 0 := by simp only [List.getD_eq_getElem?_getD, List.getElem?_append_left hp]
  rw [e0]
  by_cases hk : xs.getD 0 0 % 16 = 10
  · rw [hk, longF_ten] at hl ⊢
    have h3 : 3 ≤ xs.length := by split at hl <;> omega
    have e2 : (xs ++ ys).getD 2 0 = xs.getD 2 0 := by simp only [List.getD_eq_getElem?_getD, List.getElem?_append_left (show 2 < xs.length by omega)]
    rw [if_neg (by omega)] at hl
    rw [if_neg (by simp; omega), e2]; exact hl
  · rw [longF_not hk _ xs.length _ (xs.getD 2 0)]; exact hl
theorem dec_app {e : Ev} {n : Nat} (b : Back e n) (rest : List Int) (hr : Oct rest) : decE 9 (progB e ++ rest) = e :: decE 9 rest := by
  have hL := long_app (ys := rest) b.long b.pos
  have hne : progB e ++ rest ≠ [] := by intro h; have h1 := congrArg List.length h; rw [List.length_append, List.length_nil] at h1; have := b.pos; omega
  have e0 : (progB e ++ rest).getD 0 0 = (progB e).getD 0 0 := by simp only [List.getD_eq_getElem?_getD, List.getElem?_append_left b.pos]
  have bp := b.pos
  rw [dec_fine 9 _ hne (oct_append (progB_oct e) hr) (by rw [hL, List.length_append]; omega), hL, e0, if_pos b.kind]
  simp only [List.take_left', List.drop_left', b.one]
  rfl
theorem enc_back {e : Ev} {n : Nat} (b : Back e n) : encP e = progB e := by
  refine encP_yes rfl ?_
  have := dec_app b [] oct_nil
  rw [List.append_nil] at this; rw [this]; rfl
theorem encAll_oct (l : List Ev) : Oct (encAll l) := by
  intro y hy
  obtain ⟨e, _, hy⟩ := List.mem_flatMap.1 hy
  unfold encP at hy
  split at hy
  · exact progB_oct e y hy
  · cases hy
/-- Of what some bytes say, bytes are made that say it again, and they are no more. -/
theorem back_all : ∀ (n : Nat) (xs : List Int), xs.length ≤ n → Oct xs → decE 9 (encAll (decE 9 xs)) = decE 9 xs ∧ (encAll (decE 9 xs)).length ≤ xs.length
  | 0, xs, hn, hx => by
    have : xs = [] := List.eq_nil_of_length_eq_zero (by omega)
    subst this; exact ⟨rfl, by simp [decE_nil, encAll]⟩
  | n + 1, xs, hn, hx => by
    by_cases hne : xs = []
    · subst hne; exact ⟨rfl, by simp [decE_nil, encAll]⟩
    by_cases hs : longR xs = 0 ∨ xs.length < longR xs
    · rw [dec_short 9 xs hx hs]; exact ⟨rfl, by simp [encAll]⟩
    · have hd := dec_fine 9 xs hne hx hs
      obtain ⟨i1, i2⟩ := back_all n (xs.drop (longR xs)) (by rw [List.length_drop]; omega) (hx.drop _)
      rw [List.length_drop] at i2
      by_cases hk : xs.getD 0 0 % 16 ≠ 15
      · rw [if_pos hk] at hd
        have hl : (xs.take (longR xs)).length = longR xs := by rw [List.length_take]; omega
        have b := back_one (xs := xs.take (longR xs)) (hx.take _) (by intro h; have := congrArg List.length h; rw [hl] at this; simp at this; omega) (by rw [hl, take_long hs]) (by rw [getD_take (by omega)]; exact hk)
        rw [hl] at b
        have hcons : decE 9 xs = oneR 9 (xs.take (longR xs)) :: decE 9 (xs.drop (longR xs)) := hd
        have he : encAll (decE 9 xs) = progB (oneR 9 (xs.take (longR xs))) ++ encAll (decE 9 (xs.drop (longR xs))) := by
          rw [hcons, ← enc_back b]; rfl
        refine ⟨?_, ?_⟩
        · rw [he, dec_app b _ (encAll_oct _), i1, ← hcons]
        · rw [he, List.length_append]; have := b.short; omega
      · rw [if_neg hk, List.nil_append] at hd
        rw [hd]; exact ⟨i1, by omega⟩
/-- What holds of each event that is read. -/
theorem decP_all (P : Ev → Prop) (n : Int) (h : ∀ s : List Int × Bool, Oct s.1 → (evP n s).1.2 = true → P (evP n s).1.1) : ∀ (f : Nat) (xs : List Int), Oct xs → ∀ e ∈ decP n f xs, P e
  | 0, _, _, e, he => by cases he
  | f + 1, xs, hx, e, he => by
    unfold decP at he
    split at he
    · cases he
    · split at he
      · cases he
      · rcases List.mem_append.1 he with he | he
        · split at he
          · rename_i hb; simp only [List.mem_singleton] at he; rw [he]; exact h _ hx hb
          · cases he
        · exact decP_all P n h f _ (evP_oct (s := (xs, false)) hx) e he
structure Named (n : Int) (e : Ev) : Prop where
  net : decide (e.k = 3 ∨ e.k = 4 ∨ e.k = 5) = decide (e.n = 0)
  top : e.n ≤ n
  lo : 1 ≤ e.k
  hi : e.k ≤ 12
  lose : e.k ≠ 10 ∧ e.k ≠ 11
theorem named_m {n k m i w : Int} {t : ByteArray} {ks : List Int} (h1 : 1 ≤ m) (h2 : m ≤ n) (hk : k = 1 ∨ k = 2 ∨ k = 6 ∨ k = 7 ∨ k = 8 ∨ k = 9 ∨ k = 12) : Named n (evO k m i w t ks) := by
  have hm : ¬ m = 0 := by omega
  rcases hk with rfl | rfl | rfl | rfl | rfl | rfl | rfl <;> exact ⟨by simp [evO, hm], h2, by simp [evO], by simp [evO], by simp [evO]⟩
theorem named_0 {n k i w : Int} {t : ByteArray} {ks : List Int} (h2 : 0 ≤ n) (hk : k = 3 ∨ k = 4 ∨ k = 5) : Named n (evO k 0 i w t ks) := by
  rcases hk with rfl | rfl | rfl <;> exact ⟨by simp [evO], h2, by simp [evO], by simp [evO], by simp [evO]⟩
theorem evP_named {n : Int} (hn : 1 ≤ n) (s : List Int × Bool) (_hx : Oct s.1) (hb : (evP n s).1.2 = true) : Named n (evP n s).1.1 := by
  have hm : ∀ s : List Int × Bool, 1 ≤ (rdN n s).1 ∧ (rdN n s).1 ≤ n := fun s => by
    have := Int.emod_nonneg (rdB s).1 (show n ≠ 0 by omega)
    have := Int.emod_lt_of_pos (rdB s).1 (show 0 < n by omega)
    unfold rdN; simp only []; omega
  have hm1 := hm (rdB s).2
  have h15 : ¬ (rdB s).1 % 16 = 15 := by intro h; unfold evP at hb; simp [h] at hb
  clear hb
  unfold evP
  simp only []
  repeat' split
  all_goals first
    | exact named_m hm1.1 hm1.2 (by simp)
    | exact named_0 (by omega) (by simp)
    | exact absurd (by assumption) h15
theorem decA_named (nodes : Int) (xs : List Int) (hx : Oct xs) : ∀ e ∈ decA nodes xs, Named (normN nodes) e :=
  decP_all _ _ (fun s hs hb => evP_named (normN_fit nodes).1 s hs hb) _ xs hx
theorem decP_len (n : Int) : ∀ (f : Nat) (xs : List Int), (decP n f xs).length ≤ f
  | 0, _ => Nat.le_refl _
  | f + 1, xs => by
    unfold decP
    split
    · simp
    · split
      · simp
      · have := decP_len n f (evP n (xs, false)).2.1
        rw [List.length_append]
        split <;> simp <;> omega
theorem decA_len (nodes : Int) (xs : List Int) : (decA nodes xs).length ≤ xs.length := decP_len _ _ _
end Go.Proofs.Ytihkkoldjllifaa
