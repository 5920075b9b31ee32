import Derived.Test.YtmhmlpfkdpjlaaaBits
import Derived.Laws.BytesArg
import Derived.Test.YtmhmlpfkdpjlaaaRefBits
import Derived.Test.YtmhmlpfkdpjlaaaPlainBits
import Derived.Test.YtmhmlpfkdpjlaaaStampBy
/- Bytes in the order of the numbers that they lay. -/
namespace Go.Proofs.Ytmhmlpfkdpjlaaa
open Go.RowKit

theorem beVal_acc : ∀ (l : List Int) (a : Int), l.foldl (fun a c => a * 256 + c) a = a * 256 ^ l.length + beVal l
  | [], a => by simp [beVal]
  | c :: l, a => by
    rw [List.foldl_cons, beVal_acc l, List.length_cons, Int.pow_succ]
    have e : beVal (c :: l) = (0 * 256 + c) * 256 ^ l.length + beVal l := by
      show (c :: l).foldl _ 0 = _
      rw [List.foldl_cons, beVal_acc l]
    rw [e, Int.add_mul, Int.add_mul, Int.mul_comm (256 ^ l.length) 256, ← Int.mul_assoc a 256]
    omega
theorem beVal_cons (c : Int) (l : List Int) : beVal (c :: l) = c * 256 ^ l.length + beVal l := by
  show (c :: l).foldl _ 0 = _
  rw [List.foldl_cons, beVal_acc]; simp
theorem beVal_app (xs ys : List Int) : beVal (xs ++ ys) = beVal xs * 256 ^ ys.length + beVal ys := by
  show (xs ++ ys).foldl _ 0 = _
  rw [List.foldl_append, beVal_acc]; rfl
theorem beVal_pre (v : Int) (n : Nat) : ∀ k : Nat, k ≤ n → 0 ≤ v → v < 2 ^ (8 * n) → beVal (bePre v n k) = v / 2 ^ (8 * (n - k))
  | 0, _, h0, h1 => by
    rw [Int.ediv_eq_zero_of_lt h0 (by simpa using h1)]; rfl
  | k + 1, hk, h0, h1 => by
    rw [bePre, beVal_snoc, beVal_pre v n k (by omega) h0 h1, show (8 * ((n : Int) - 1 - k)).toNat = 8 * (n - (k + 1)) by omega, show n - k = n - (k + 1) + 1 by omega, ← div_step]
    omega
theorem beVal_8 (v : Int) (h0 : 0 ≤ v) (h1 : v ≤ 18446744073709551615) : beVal (bePre v 8 8) = v := by
  have := beVal_pre v 8 8 (Nat.le_refl _) h0 (by have : ((2 : Int) ^ (8 * 8)) = 18446744073709551616 := by decide
                                                 omega)
  simpa using this
theorem bePre_bd (v n : Int) (k : Nat) : ∀ x ∈ bePre v n k, 0 ≤ x ∧ x ≤ 255 := by
  induction k with
  | zero => intro x hx; cases hx
  | succ k ih =>
    intro x hx
    rw [bePre, List.mem_append, List.mem_singleton] at hx
    rcases hx with hx | rfl
    · exact ih x hx
    · omega
def bs (xs : List Int) : List UInt8 := xs.map fun n => UInt8.ofNat n.toNat
theorem u8_lt (x y : Int) (hx : 0 ≤ x ∧ x ≤ 255) (hy : 0 ≤ y ∧ y ≤ 255) : (UInt8.ofNat x.toNat < UInt8.ofNat y.toNat) ↔ x < y := by
  rw [UInt8.lt_iff_toNat_lt, UInt8.toNat_ofNat', UInt8.toNat_ofNat']; omega
theorem u8_eq (x y : Int) (hx : 0 ≤ x ∧ x ≤ 255) (hy : 0 ≤ y ∧ y ≤ 255) : (UInt8.ofNat x.toNat = UInt8.ofNat y.toNat) ↔ x = y := by
  rw [← UInt8.toNat_inj, UInt8.toNat_ofNat', UInt8.toNat_ofNat']; omega
theorem bytesLess_val : ∀ (xs ys : List Int), xs.length = ys.length → (∀ x ∈ xs, 0 ≤ x ∧ x ≤ 255) → (∀ y ∈ ys, 0 ≤ y ∧ y ≤ 255) → Op.bytesLess (bs xs) (bs ys) = decide (beVal xs < beVal ys)
  | [], [], _, _, _ => rfl
  | x :: xs, y :: ys, hl, hx, hy => by
    have hl' : xs.length = ys.length := by simpa using hl
    have ih := bytesLess_val xs ys hl' (fun z hz => hx z (List.mem_cons_of_mem _ hz)) (fun z hz => hy z (List.mem_cons_of_mem _ hz))
    have b1 := beVal_bound xs.length xs rfl (fun z hz => hx z (List.mem_cons_of_mem _ hz))
    have b2 := beVal_bound xs.length ys hl'.symm (fun z hz => hy z (List.mem_cons_of_mem _ hz))
    have hx0 := hx x (List.mem_cons_self ..)
    have hy0 := hy y (List.mem_cons_self ..)
    show (decide (UInt8.ofNat x.toNat < UInt8.ofNat y.toNat) || (UInt8.ofNat x.toNat == UInt8.ofNat y.toNat && Op.bytesLess (bs xs) (bs ys))) = _
    rw [ih, beVal_cons, beVal_cons, ← hl', Bool.eq_iff_iff]
    simp only [Bool.or_eq_true, Bool.and_eq_true, decide_eq_true_eq, beq_iff_eq, u8_lt x y hx0 hy0, u8_eq x y hx0 hy0]
    generalize (256 : Int) ^ xs.length = p at b1 b2
    rcases Int.lt_trichotomy x y with h | h | h
    · have : (x + 1) * p ≤ y * p := Int.mul_le_mul_of_nonneg_right (by omega) (by omega)
      rw [Int.add_mul] at this
      omega
    · subst h; omega
    · have : (y + 1) * p ≤ x * p := Int.mul_le_mul_of_nonneg_right (by omega) (by omega)
      rw [Int.add_mul] at this
      omega
  | [], _ :: _, hl, _, _ => by simp at hl
  | _ :: _, [], hl, _, _ => by simp at hl
theorem str_toList (xs : List Int) : (strOfNums xs).toList = bs xs := by rw [ByteArray.toList_eq]; simp [strOfNums, bs]
end Go.Proofs.Ytmhmlpfkdpjlaaa
/- Wire: the plain law: a command's bytes, and that no two commands have the same. -/
namespace Go.Proofs.Ytmhmlpfkdpjlaaa

/-- An int64. -/
def In64 (n : Int) : Prop := -9223372036854775808 ≤ n ∧ n ≤ 9223372036854775807
structure SpX where
  lo : ByteArray
  hi : ByteArray
deriving DecidableEq
structure WrX where
  k : ByteArray
  r : Bool
  d : ByteArray
deriving DecidableEq
structure CmX where
  k : Int
  e : Int
  n : Int
  h : Int
  yn : Int
  yl : Int
  ys : Int
  ya : Int
  sw : Int
  st : Int
  w : Int
  yes : Bool
  sp : List SpX
  wr : List WrX
deriving DecidableEq
def txW (t : ByteArray) : List Int := t.data.toList.map fun b => (b.toNat : Int)
theorem txW_len (t : ByteArray) : (txW t).length = t.size := by unfold txW; rw [List.length_map, Array.length_toList]; rfl
theorem txW_oct (t : ByteArray) : ∀ x ∈ txW t, 0 ≤ x ∧ x ≤ 255 := by
  intro x hx
  simp only [txW, List.mem_map] at hx
  obtain ⟨b, _, rfl⟩ := hx
  have := b.toNat_lt
  omega
theorem txW_inj {s t : ByteArray} (h : txW s = txW t) : s = t := by
  unfold txW at h
  have hi : ∀ {a b : UInt8}, ((a.toNat : Nat) : Int) = ((b.toNat : Nat) : Int) → a = b := fun {a b} h => UInt8.toNat_inj.1 (by omega)
  have h2 := (List.map_inj_right (fun a b h => hi h)).1 h
  cases s; cases t
  simp only [ByteArray.mk.injEq]
  exact Array.toList_inj.1 h2
def encN (v : Int) : List Int := varN (zigI v).toNat
def encT (s : ByteArray) : List Int := varN s.size ++ txW s
def encF (b : Bool) : List Int := [if b then 1 else 0]
def encY (n l s a : Int) : List Int := encN n ++ encN l ++ encN s ++ encN a
def encSp (x : SpX) : List Int := encT x.lo ++ encT x.hi
def encWr (x : WrX) : List Int := encT x.k ++ encF x.r ++ encT x.d
def encHd (c : CmX) : List Int := [1] ++ encN c.k ++ encN c.e ++ encN c.n ++ encN c.h ++ encY c.yn c.yl c.ys c.ya ++ stampB c.sw c.st ++ encN c.w ++ encF c.yes
def encSps (l : List SpX) : List Int := encN l.length ++ l.flatMap encSp
def encWrs (l : List WrX) : List Int := encN l.length ++ l.flatMap encWr
def encCm (c : CmX) : List Int := encHd c ++ encSps c.sp ++ encWrs c.wr
theorem zigI_fit {v : Int} (h : In64 v) : 0 ≤ zigI v ∧ zigI v ≤ 18446744073709551615 := by unfold zigI; obtain ⟨h0, h1⟩ := h; split <;> omega
theorem zigI_inj {a b : Int} (ha : In64 a) (hb : In64 b) (h : zigI a = zigI b) : a = b := by
  unfold zigI at h; obtain ⟨a0, a1⟩ := ha; obtain ⟨b0, b1⟩ := hb
  split at h <;> split at h <;> omega
theorem varN_cut {a b : Nat} {x y : List Int} (ha : a ≤ 18446744073709551615) (hb : b ≤ 18446744073709551615) (h : varN a ++ x = varN b ++ y) : a = b ∧ x = y := by
  have h1 := takeV_var a ha x
  rw [h, takeV_var b hb y] at h1
  simp only [Prod.mk.injEq] at h1
  obtain rfl : b = a := by omega
  exact ⟨rfl, List.append_cancel_left h⟩
theorem encN_cut {a b : Int} {x y : List Int} (ha : In64 a) (hb : In64 b) (h : encN a ++ x = encN b ++ y) : a = b ∧ x = y := by
  have fa := zigI_fit ha; have fb := zigI_fit hb
  obtain ⟨h1, h2⟩ := varN_cut (by omega) (by omega) h
  exact ⟨zigI_inj ha hb (by omega), h2⟩
theorem encF_cut {a b : Bool} {x y : List Int} (h : encF a ++ x = encF b ++ y) : a = b ∧ x = y := by
  cases a <;> cases b <;> simp_all [encF]
theorem encT_cut {a b : ByteArray} {x y : List Int} (ha : a.size ≤ 18446744073709551615) (hb : b.size ≤ 18446744073709551615) (h : encT a ++ x = encT b ++ y) : a = b ∧ x = y := by
  unfold encT at h
  rw [List.append_assoc, List.append_assoc] at h
  obtain ⟨h1, h2⟩ := varN_cut ha hb h
  obtain ⟨h3, h4⟩ := List.append_inj h2 (by rw [txW_len, txW_len, h1])
  exact ⟨txW_inj h3, h4⟩
theorem encL_cut {α : Type} {f : α → List Int} {F : α → Prop} (hf : ∀ a b x y, F a → F b → f a ++ x = f b ++ y → a = b ∧ x = y) : ∀ {l m : List α} {x y : List Int}, (∀ a ∈ l, F a) → (∀ a ∈ m, F a) → l.length = m.length → l.flatMap f ++ x = m.flatMap f ++ y → l = m ∧ x = y
  | [], [], _, _, _, _, _, h => ⟨rfl, by simpa using h⟩
  | [], _ :: _, _, _, _, _, h, _ => by simp at h
  | _ :: _, [], _, _, _, _, h, _ => by simp at h
  | a :: l, b :: m, x, y, hl, hm, hn, h => by
    rw [List.flatMap_cons, List.flatMap_cons, List.append_assoc, List.append_assoc] at h
    obtain ⟨h1, h2⟩ := hf _ _ _ _ (hl a (by simp)) (hm b (by simp)) h
    obtain ⟨h3, h4⟩ := encL_cut hf (fun c hc => hl c (by simp [hc])) (fun c hc => hm c (by simp [hc])) (by simpa using hn) h2
    exact ⟨by rw [h1, h3], h4⟩
def TxF (s : ByteArray) : Prop := s.size ≤ 9223372036854775807
def SpF (x : SpX) : Prop := TxF x.lo ∧ TxF x.hi
def WrF (x : WrX) : Prop := TxF x.k ∧ TxF x.d
structure CmF (c : CmX) : Prop where
  k : In64 c.k
  e : In64 c.e
  n : In64 c.n
  h : In64 c.h
  yn : In64 c.yn
  yl : In64 c.yl
  ys : In64 c.ys
  ya : In64 c.ya
  sw : In64 c.sw
  st : In64 c.st
  w : In64 c.w
  sp : ∀ x ∈ c.sp, SpF x
  wr : ∀ x ∈ c.wr, WrF x
  nsp : c.sp.length ≤ 9223372036854775807
  nwr : c.wr.length ≤ 9223372036854775807
theorem encSp_cut (a b : SpX) (x y : List Int) (ha : SpF a) (hb : SpF b) (h : encSp a ++ x = encSp b ++ y) : a = b ∧ x = y := by
  unfold encSp at h; rw [List.append_assoc, List.append_assoc] at h
  obtain ⟨⟨a1, a2⟩, ⟨b1, b2⟩⟩ := And.intro ha hb
  unfold TxF at a1 a2 b1 b2
  obtain ⟨h1, h⟩ := encT_cut (by omega) (by omega) h
  obtain ⟨h2, h⟩ := encT_cut (by omega) (by omega) h
  cases a; cases b; simp_all
theorem encWr_cut (a b : WrX) (x y : List Int) (ha : WrF a) (hb : WrF b) (h : encWr a ++ x = encWr b ++ y) : a = b ∧ x = y := by
  unfold encWr at h; simp only [List.append_assoc] at h
  obtain ⟨⟨a1, a2⟩, ⟨b1, b2⟩⟩ := And.intro ha hb
  unfold TxF at a1 a2 b1 b2
  obtain ⟨h1, h⟩ := encT_cut (by omega) (by omega) h
  obtain ⟨h3, h⟩ := encF_cut h
  obtain ⟨h2, h⟩ := encT_cut (by omega) (by omega) h
  cases a; cases b; simp_all
theorem stampB_cut {a b c d : Int} {x y : List Int} (ha : In64 a) (hb : In64 b) (hc : In64 c) (hd : In64 d) (h : stampB a b ++ x = stampB c d ++ y) : (a = c ∧ b = d) ∧ x = y := by
  obtain ⟨h1, h2⟩ := List.append_inj h (by rw [stampB_len, stampB_len])
  unfold stampB at h1
  obtain ⟨h3, h4⟩ := List.append_inj h1 (by rw [bePre_len, bePre_len])
  have k3 := congrArg beVal h3
  have k4 := congrArg beVal h4
  have bd : ∀ {v : Int}, In64 v → 0 ≤ orderI v ∧ orderI v ≤ 18446744073709551615 := fun {v} h => by unfold orderI; obtain ⟨h0, h1⟩ := h; omega
  rw [beVal_8 _ (bd ha).1 (bd ha).2, beVal_8 _ (bd hc).1 (bd hc).2] at k3
  rw [beVal_8 _ (bd hb).1 (bd hb).2, beVal_8 _ (bd hd).1 (bd hd).2] at k4
  unfold orderI at k3 k4
  exact ⟨⟨by omega, by omega⟩, h2⟩
theorem encCm_inj {c d : CmX} (hc : CmF c) (hd : CmF d) (h : encCm c = encCm d) : c = d := by
  have h : encCm c ++ [] = encCm d ++ [] := by rw [h]
  unfold encCm encHd encY encSps encWrs at h
  simp only [List.append_assoc, List.cons_append, List.nil_append, List.cons.injEq, true_and] at h
  obtain ⟨h1, h⟩ := encN_cut hc.k hd.k h
  obtain ⟨h2, h⟩ := encN_cut hc.e hd.e h
  obtain ⟨h3, h⟩ := encN_cut hc.n hd.n h
  obtain ⟨h4, h⟩ := encN_cut hc.h hd.h h
  obtain ⟨h5, h⟩ := encN_cut hc.yn hd.yn h
  obtain ⟨h6, h⟩ := encN_cut hc.yl hd.yl h
  obtain ⟨h7, h⟩ := encN_cut hc.ys hd.ys h
  obtain ⟨h8, h⟩ := encN_cut hc.ya hd.ya h
  obtain ⟨⟨h9, h10⟩, h⟩ := stampB_cut hc.sw hc.st hd.sw hd.st h
  obtain ⟨h11, h⟩ := encN_cut hc.w hd.w h
  obtain ⟨h12, h⟩ := encF_cut h
  obtain ⟨h13, h⟩ := encN_cut ⟨by omega, by have := hc.nsp; omega⟩ ⟨by omega, by have := hd.nsp; omega⟩ h
  obtain ⟨h14, h⟩ := encL_cut encSp_cut hc.sp hd.sp (by omega) h
  obtain ⟨h15, h⟩ := encN_cut ⟨by omega, by have := hc.nwr; omega⟩ ⟨by omega, by have := hd.nwr; omega⟩ h
  obtain ⟨h16, -⟩ := encL_cut encWr_cut hc.wr hd.wr (by omega) h
  cases c; cases d; simp_all
end Go.Proofs.Ytmhmlpfkdpjlaaa
