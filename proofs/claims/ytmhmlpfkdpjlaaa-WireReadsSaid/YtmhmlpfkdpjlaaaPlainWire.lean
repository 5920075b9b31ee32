import Derived.Test.YtmhmlpfkdpjlaaaRoom
import Derived.Test.YtmhmlpfkdpjlaaaBits
import Derived.Test.YtmhmlpfkdpjlaaaRefGet
import Derived.Deep.Onto
import Derived.Deep.RegionHeld3
import Derived.Deep.DeepCutAuto
import Derived.Deep.AppendLies
import Derived.Laws.BytesArg
import Derived.Test.YtmhmlpfkdpjlaaaPlainBits
/- Contracts of stamps as bytes: how they are laid, and which bytes are a stamp; package stamp and its reference. -/
namespace Go.Proofs.Ytmhmlpfkdpjlaaa
open Go.RowKit

/-- The bytes of a stamp. -/
def stampB (a b : Int) : List Int := bePre (orderI a) 8 8 ++ bePre (orderI b) 8 8
theorem stampB_len (a b : Int) : (stampB a b).length = 16 := by simp [stampB, bePre_len]
def takeE (xs : List Int) : Int := if xs.length < 16 then 2 else if 16 < xs.length then 3 else 0
def takeW (xs : List Int) : Int := if takeE xs = 0 then backI (beVal ((xs.drop 0).take 8)) else 0
def takeT (xs : List Int) : Int := if takeE xs = 0 then backI (beVal ((xs.drop 8).take 8)) else 0
theorem orderI_bd (a : Int) (h0 : -9223372036854775808 ≤ a) (h1 : a ≤ 9223372036854775807) : 0 ≤ orderI a ∧ orderI a < 2 ^ (8 * (8 : Int)).toNat := by
  have : ((2 : Int) ^ (8 * (8 : Int)).toNat) = 18446744073709551616 := by decide
  rw [this]; unfold orderI; omega
theorem nil_sl (w : World) : Sl 0 w (.slice none 0 0) 1 ([] : List Int).length (byt []) := ⟨rfl, .inl ⟨rfl, rfl⟩⟩

/-- Sixteen bytes in a row of the call's own. -/
def Made (w : World) (ys : List Int) (e : Ending) (w' : World) : Prop := ∃ v', e = .returned v' ∧ w'.ownsRow w.heap.size 5 1 v' ys.length (byt ys) ∧ Below w.heap.size w w'

set_option maxHeartbeats 2000000 in
theorem bytes_any (a b : Int) (w : World) (a0 : -9223372036854775808 ≤ a) (a1 : a ≤ 9223372036854775807) (b0 : -9223372036854775808 ≤ b) (b1 : b ≤ 9223372036854775807) :
    Calls Try.prog 81 #[.agg #[.int .i64 a, .int .i64 b]] w (Made w (stampB a b)) := by
  obtain ⟨oa0, oa1⟩ := orderI_bd a a0 a1
  obtain ⟨ob0, ob1⟩ := orderI_bd b b0 b1
  have oa2 : orderI a ≤ 18446744073709551615 := by have : ((2 : Int) ^ (8 * (8 : Int)).toNat) = 18446744073709551616 := by decide
                                                   omega
  have ob2 : orderI b ≤ 18446744073709551615 := by have : ((2 : Int) ^ (8 * (8 : Int)).toNat) = 18446744073709551616 := by decide
                                                   omega
  have PA := Lib.hid (fun (v : World) => put_ok 0 _ [] (orderI a) 8 v (nil_sl v) (Nat.zero_le _) (by decide) oa0 oa2 (by decide) (by decide) oa1)
  have PB := Lib.hid (fun (v : World) (u : Value) (h : Sl v.heap.size v u 1 (bePre (orderI a) 8 8).length (byt (bePre (orderI a) 8 8))) => put_ok v.heap.size u (bePre (orderI a) 8 8) (orderI b) 8 v h (Nat.le_refl _) (by rw [bePre_len]; decide) ob0 ob2 (by decide) (by decide) ob1)
  have HA := heap_last w (.cells #[.int .i64 a, .int .i64 b] 25)
  clear oa1 ob1
  go_enter Try.func81, Try.ntmps81
  go_wp2_with fail
  refine (order_any _ _ a0 a1).mono ?_; rintro e w' ⟨rfl, rfl⟩
  go_wp2_with fail
  refine (PA.out _).mono ?_; rintro e w1 ⟨v1, rfl, hown, hb⟩
  have hown' : w1.ownsRow (w.heap.size + 1) 5 1 v1 (bePre (orderI a) 8 8).length (byt (bePre (orderI a) 8 8)) := by simpa [bePre_len] using hown
  have HSL := Lib.hid (Sl.of_own hown')
  have hb0 : Below (w.heap.size + 1) (w.alloc (.cells #[.int .i64 a, .int .i64 b] 25)) w1 := by simpa using hb
  replace HA := below_block hb0 (by omega) HA
  have B1 := Lib.hid ((below_alloc w (.cells #[.int .i64 a, .int .i64 b] 25) (Nat.le_refl _)).trans (hb0.mono (by omega)))
  have kA := block_cells HA
  clear hown hown' hb hb0 PA
  go_wp2_with fail
  refine (order_any _ _ b0 b1).mono ?_; rintro e w' ⟨rfl, rfl⟩
  go_wp2_with fail
  refine (PB.out _ _ HSL.out).mono ?_; rintro e w2 ⟨v2, rfl, hown, hb⟩
  have HO : Hid (w2.ownsRow w.heap.size 5 1 v2 (stampB a b).length (byt (stampB a b))) := by
    show World.ownsRow _ _ _ _ _ _ _
    have h2 := hown.mono B1.out.size
    rw [bePre_len] at h2
    rw [stampB_len]; exact h2
  clear hown
  go_wp2_with fail
  go_ret
  exact ⟨_, rfl, HO.out, B1.out.trans (hb.mono B1.out.size)⟩

theorem own_below {B : Nat} {w w' : World} {base : Nat} {e : TypeId} {size : Nat} {v : Value} {n : Nat} {xs : List Value} (h : w.ownsRow base e size v n xs) (hb : Below B w w') (hB : w.heap.size ≤ B) : w'.ownsRow base e size v n xs :=
  h.kept (row := none) ⟨hb.os, hb.tape, hb.output, hb.size, fun k hk _ => hb.block k (by omega)⟩ (by cases v.ownBlock <;> simp)
theorem own_news {w : World} {base : Nat} {e : TypeId} {g n cap : Nat} {xs : List Value} (h : w.ownsRow base e 1 (.slice (some ⟨g, 0, none⟩) n cap) n xs) : ∀ j u, xs[j]? = some u → w.cell? ((⟨g, 0, none⟩ : Addr).add j) = some u := fun j u hu => by
  have hj : j < n * 1 := by rw [← h.1]; exact (List.getElem?_eq_some_iff.1 hu).1
  rw [Go.WideShapes.add_plain, Nat.zero_add, h.cellAt j hj]; exact hu
/-- Eight bytes in a new row. -/
def Eight (w : World) (ys : List Int) (e : Ending) (w' : World) : Prop := ∃ g cap, e = .returned (.slice (some ⟨g, 0, none⟩) 8 cap) ∧ w'.ownsRow w.heap.size 5 1 (.slice (some ⟨g, 0, none⟩) 8 cap) 8 (byt ys) ∧ Below w.heap.size w w' ∧ w.heap.size ≤ g ∧ g < w'.heap.size
set_option maxHeartbeats 1000000 in
theorem eight_any (x : Int) (w : World) (h0 : 0 ≤ x) (h1 : x ≤ 18446744073709551615) : Calls Try.prog 104 #[.int .u64 x] w (Eight w (bePre x 8 8)) := by
  have hlt : x < 2 ^ (8 * 8) := by
    have : ((2 : Int) ^ (8 * 8)) = 18446744073709551616 := by decide
    omega
  have HL := Lib.hid hlt
  have P := Lib.hid (fun (v : World) => refPut_any 0 _ [] x 8 v (nil_sl v) (Nat.zero_le _) (by decide) h0 h1 (by decide) (by decide))
  clear hlt
  go_enter Try.func104, Try.ntmps104
  go_wp2_with fail
  refine (P.out _).mono ?_; rintro e w1 ⟨h, -, hb⟩
  obtain ⟨v, rfl, hown⟩ := h HL.out
  rw [List.nil_append, bePre_len] at hown
  have hlt := hown.lt
  rcases hown.2 with ⟨-, h8⟩ | ⟨g, cap, cur, rfl, hg, hr, -⟩
  · exact absurd h8 (by decide)
  · have HO := Lib.hid hown
    have hgl := (Array.getElem?_eq_some_iff.1 hr).1
    clear hr hown h hlt
    go_wp2_with fail
    go_ret
    exact ⟨g, cap, rfl, HO.out, hb, hg, hgl⟩

set_option maxRecDepth 100000 in
set_option maxHeartbeats 4000000 in
theorem refBytes_any (a b : Int) (w : World) (a0 : -9223372036854775808 ≤ a) (a1 : a ≤ 9223372036854775807) (b0 : -9223372036854775808 ≤ b) (b1 : b ≤ 9223372036854775807) :
    Calls Try.prog 87 #[.agg #[.int .i64 a, .int .i64 b]] w (Made w (stampB a b)) := by
  obtain ⟨i0, hi, hz0, hz1, hz2⟩ := info_parts Try.infoU8
  have oa : 0 ≤ orderI a ∧ orderI a ≤ 18446744073709551615 := by unfold orderI; omega
  have ob : 0 ≤ orderI b ∧ orderI b ≤ 18446744073709551615 := by unfold orderI; omega
  obtain ⟨oa0, oa1⟩ := oa
  obtain ⟨ob0, ob1⟩ := ob
  go_enter Try.func87, Try.ntmps87
  go_wp2_with fail
  have HA := heap_last w (.cells #[.int .i64 a, .int .i64 b] 25)
  have B0 := below_alloc w (.cells #[.int .i64 a, .int .i64 b] 25) (Nat.le_refl _)
  have hsz : (w.alloc (.cells #[.int .i64 a, .int .i64 b] 25)).heap.size = w.heap.size + 1 := by simp
  obtain ⟨W, hW⟩ : ∃ W, w.alloc (.cells #[.int .i64 a, .int .i64 b] 25) = W := ⟨_, rfl⟩
  rw [hW] at HA B0 hsz ⊢
  clear hW
  have h0 : Below W.heap.size W W.drew := (Below.refl _ _).drew
  have HS : Hid (∀ w', Below W.heap.size W w' → Below W.heap.size W w' ∧ (∀ j, w'.cell? ⟨w.heap.size, j, none⟩ = #[Value.int .i64 a, .int .i64 b][j]?)) := fun w' h => ⟨h, block_cells (below_block h (by omega) HA)⟩
  have HB0 := Lib.hid (And.intro B0 hsz)
  clear HA B0 hsz
  go_cut [2] (fun v wx => Made w (stampB a b) (.returned v) wx)
  case first =>
    go_region_held3 (fun w' => Below W.heap.size W w' ∧ (∀ j, w'.cell? ⟨w.heap.size, j, none⟩ = #[Value.int .i64 a, .int .i64 b][j]?)) ((refine HS.out _ ?_; first | exact h0 | assumption | exact Below.trans (by assumption) (by assumption)))
      (first
        | (go_at_call_of 105 (Value.int .i64 a); refine (refOrder_any _ _ a0 a1).mono ?_; rintro e w' ⟨rfl, rfl⟩)
        | (go_at_call_of 105 (Value.int .i64 b); refine (refOrder_any _ _ b0 b1).mono ?_; rintro e w' ⟨rfl, rfl⟩)
        | (go_at_call_of 104 (Value.int .u64 (orderI a)); refine (eight_any _ _ oa0 oa1).mono ?_; rintro e w1 ⟨g1, c1, rfl, hX, hbX, hgX, hgX'⟩; have hkX := (h0.trans (hbX.mono (by simp))))
        | (go_at_call_of 104 (Value.int .u64 (orderI b)); refine (eight_any _ _ ob0 ob1).mono ?_; rintro e w2 ⟨g2, c2, rfl, hY, hbY, hgY, hgY'⟩; have hkY := (hkX.trans (hbY.mono hkX.size)); have hX2 := own_below hX hbY (Nat.le_refl _); have nY := own_news hY)
        | (refine step_append_lies _ (by rfl) _ _ _ (by rfl) W.heap.size 5 i0 (.int .u8 0) 1 1 Try.underlying46 hi hz0 hz1 hz2 rfl (by decide) _ 8 (byt (bePre (orderI a) 8 8)) (by rfl) hX2 ⟨g2, 0, none⟩ 8 c2 (byt (bePre (orderI b) 8 8)) (by rfl) (by rw [byt_len, bePre_len]) nY (byt_one _) (by decide) (by unfold maxLen; omega) (by omega) hkY.size _ rfl ?_; intro g3 c3 w3 hZ hgr hor hlt3; have hkZ : Below W.heap.size W w3 := hkY.grown hgr hkY.size (fun k hk => by simp [Value.ownBlock] at hk; subst hk; exact hgX)))
    all_goals
      go_wp2_with fail
      go_meet
      refine ⟨_, rfl, ?_, HB0.out.1.trans (hkZ.mono (by have := HB0.out.2; omega))⟩
      rw [byt_app] at hZ
      rw [stampB_len]
      exact hZ.mono (by have := HB0.out.2; omega)
  case rest =>
    go_wp2_with fail
    go_ret
    obtain ⟨v', e, h1, h2⟩ := hcut
    exact ⟨v', e, h1, h2⟩
end Go.Proofs.Ytmhmlpfkdpjlaaa
/- Bytes in the order of the numbers that they lay. -/
namespace Go.Proofs.Ytmhmlpfkdpjlaaa
open Go.RowKit

theorem beVal_acc : ∀ (l : List Int) (a : Int), l.foldl (fun a c => a * 256 + c) a = a * 256 ^ l.length + beVal l
  | [], a => by simp [beVal]
  | c :: l, a => by
    rw [List.foldl_cons, beVal_acc l, List.length_cons, Int.pow_succ]
    have e : beVal (c :: l) = (0 * 256 + c) * 256 ^ l.length + beVal l := by
      show (c :: l).foldl _ 0 = _
      rw [List.foldl_cons, beVal_acc l]
    rw [e, Int.add_mul, Int.add_mul, Int.mul_comm (256 ^ l.length) 256, ← Int.mul_assoc a 256]
    omega
theorem beVal_cons (c : Int) (l : List Int) : beVal (c :: l) = c * 256 ^ l.length + beVal l := by
  show (c :: l).foldl _ 0 = _
  rw [List.foldl_cons, beVal_acc]; simp
theorem beVal_pre (v : Int) (n : Nat) : ∀ k : Nat, k ≤ n → 0 ≤ v → v < 2 ^ (8 * n) → beVal (bePre v n k) = v / 2 ^ (8 * (n - k))
  | 0, _, h0, h1 => by
    rw [Int.ediv_eq_zero_of_lt h0 (by simpa using h1)]; rfl
  | k + 1, hk, h0, h1 => by
    rw [bePre, beVal_snoc, beVal_pre v n k (by omega) h0 h1, show (8 * ((n : Int) - 1 - k)).toNat = 8 * (n - (k + 1)) by omega, show n - k = n - (k + 1) + 1 by omega, ← div_step]
    omega
theorem beVal_8 (v : Int) (h0 : 0 ≤ v) (h1 : v ≤ 18446744073709551615) : beVal (bePre v 8 8) = v := by
  have := beVal_pre v 8 8 (Nat.le_refl _) h0 (by have : ((2 : Int) ^ (8 * 8)) = 18446744073709551616 := by decide
                                                 omega)
  simpa using this
theorem bePre_bd (v n : Int) (k : Nat) : ∀ x ∈ bePre v n k, 0 ≤ x ∧ x ≤ 255 := by
  induction k with
  | zero => intro x hx; cases hx
  | succ k ih =>
    intro x hx
    rw [bePre, List.mem_append, List.mem_singleton] at hx
    rcases hx with hx | rfl
    · exact ih x hx
    · omega
def bs (xs : List Int) : List UInt8 := xs.map fun n => UInt8.ofNat n.toNat
end Go.Proofs.Ytmhmlpfkdpjlaaa
/- Wire: the plain law: a command's bytes, and that no two commands have the same. -/
namespace Go.Proofs.Ytmhmlpfkdpjlaaa

/-- An int64. -/
def In64 (n : Int) : Prop := -9223372036854775808 ≤ n ∧ n ≤ 9223372036854775807
structure SpX where
  lo : ByteArray
  hi : ByteArray
deriving DecidableEq
structure WrX where
  k : ByteArray
  r : Bool
  d : ByteArray
deriving DecidableEq
structure CmX where
  k : Int
  e : Int
  n : Int
  h : Int
  yn : Int
  yl : Int
  ys : Int
  ya : Int
  sw : Int
  st : Int
  w : Int
  yes : Bool
  sp : List SpX
  wr : List WrX
deriving DecidableEq
def txW (t : ByteArray) : List Int := t.data.toList.map fun b => (b.toNat : Int)
theorem txW_len (t : ByteArray) : (txW t).length = t.size := by unfold txW; rw [List.length_map, Array.length_toList]; rfl
theorem txW_oct (t : ByteArray) : ∀ x ∈ txW t, 0 ≤ x ∧ x ≤ 255 := by
  intro x hx
  simp only [txW, List.mem_map] at hx
  obtain ⟨b, _, rfl⟩ := hx
  have := b.toNat_lt
  omega
theorem txW_inj {s t : ByteArray} (h : txW s = txW t) : s = t := by
  unfold txW at h
  have hi : ∀ {a b : UInt8}, ((a.toNat : Nat) : Int) = ((b.toNat : Nat) : Int) → a = b := fun {a b} h => UInt8.toNat_inj.1 (by omega)
  have h2 := (List.map_inj_right (fun a b h => hi h)).1 h
  cases s; cases t
  simp only [ByteArray.mk.injEq]
  exact Array.toList_inj.1 h2
def encN (v : Int) : List Int := varN (zigI v).toNat
def encT (s : ByteArray) : List Int := varN s.size ++ txW s
def encF (b : Bool) : List Int := [if b then 1 else 0]
def encY (n l s a : Int) : List Int := encN n ++ encN l ++ encN s ++ encN a
def encSp (x : SpX) : List Int := encT x.lo ++ encT x.hi
def encWr (x : WrX) : List Int := encT x.k ++ encF x.r ++ encT x.d
def encHd (c : CmX) : List Int := [1] ++ encN c.k ++ encN c.e ++ encN c.n ++ encN c.h ++ encY c.yn c.yl c.ys c.ya ++ stampB c.sw c.st ++ encN c.w ++ encF c.yes
def encSps (l : List SpX) : List Int := encN l.length ++ l.flatMap encSp
def encWrs (l : List WrX) : List Int := encN l.length ++ l.flatMap encWr
def encCm (c : CmX) : List Int := encHd c ++ encSps c.sp ++ encWrs c.wr
theorem zigI_fit {v : Int} (h : In64 v) : 0 ≤ zigI v ∧ zigI v ≤ 18446744073709551615 := by unfold zigI; obtain ⟨h0, h1⟩ := h; split <;> omega
theorem zigI_inj {a b : Int} (ha : In64 a) (hb : In64 b) (h : zigI a = zigI b) : a = b := by
  unfold zigI at h; obtain ⟨a0, a1⟩ := ha; obtain ⟨b0, b1⟩ := hb
  split at h <;> split at h <;> omega
theorem varN_cut {a b : Nat} {x y : List Int} (ha : a ≤ 18446744073709551615) (hb : b ≤ 18446744073709551615) (h : varN a ++ x = varN b ++ y) : a = b ∧ x = y := by
  have h1 := takeV_var a ha x
  rw [h, takeV_var b hb y] at h1
  simp only [Prod.mk.injEq] at h1
  obtain rfl : b = a := by omega
  exact ⟨rfl, List.append_cancel_left h⟩
theorem encN_cut {a b : Int} {x y : List Int} (ha : In64 a) (hb : In64 b) (h : encN a ++ x = encN b ++ y) : a = b ∧ x = y := by
  have fa := zigI_fit ha; have fb := zigI_fit hb
  obtain ⟨h1, h2⟩ := varN_cut (by omega) (by omega) h
  exact ⟨zigI_inj ha hb (by omega), h2⟩
theorem encF_cut {a b : Bool} {x y : List Int} (h : encF a ++ x = encF b ++ y) : a = b ∧ x = y := by
  cases a <;> cases b <;> simp_all [encF]
theorem encT_cut {a b : ByteArray} {x y : List Int} (ha : a.size ≤ 18446744073709551615) (hb : b.size ≤ 18446744073709551615) (h : encT a ++ x = encT b ++ y) : a = b ∧ x = y := by
  unfold encT at h
  rw [List.append_assoc, List.append_assoc] at h
  obtain ⟨h1, h2⟩ := varN_cut ha hb h
  obtain ⟨h3, h4⟩ := List.append_inj h2 (by rw [txW_len, txW_len, h1])
  exact ⟨txW_inj h3, h4⟩
theorem encL_cut {α : Type} {f : α → List Int} {F : α → Prop} (hf : ∀ a b x y, F a → F b → f a ++ x = f b ++ y → a = b ∧ x = y) : ∀ {l m : List α} {x y : List Int}, (∀ a ∈ l, F a) → (∀ a ∈ m, F a) → l.length = m.length → l.flatMap f ++ x = m.flatMap f ++ y → l = m ∧ x = y
  | [], [], _, _, _, _, _, h => ⟨rfl, by simpa using h⟩
  | [], _ :: _, _, _, _, _, h, _ => by simp at h
  | _ :: _, [], _, _, _, _, h, _ => by simp at h
  | a :: l, b :: m, x, y, hl, hm, hn, h => by
    rw [List.flatMap_cons, List.flatMap_cons, List.append_assoc, List.append_assoc] at h
    obtain ⟨h1, h2⟩ := hf _ _ _ _ (hl a (by simp)) (hm b (by simp)) h
    obtain ⟨h3, h4⟩ := encL_cut hf (fun c hc => hl c (by simp [hc])) (fun c hc => hm c (by simp [hc])) (by simpa using hn) h2
    exact ⟨by rw [h1, h3], h4⟩
def TxF (s : ByteArray) : Prop := s.size ≤ 9223372036854775807
def SpF (x : SpX) : Prop := TxF x.lo ∧ TxF x.hi
def WrF (x : WrX) : Prop := TxF x.k ∧ TxF x.d
structure CmF (c : CmX) : Prop where
  k : In64 c.k
  e : In64 c.e
  n : In64 c.n
  h : In64 c.h
  yn : In64 c.yn
  yl : In64 c.yl
  ys : In64 c.ys
  ya : In64 c.ya
  sw : In64 c.sw
  st : In64 c.st
  w : In64 c.w
  sp : ∀ x ∈ c.sp, SpF x
  wr : ∀ x ∈ c.wr, WrF x
  nsp : c.sp.length ≤ 9223372036854775807
  nwr : c.wr.length ≤ 9223372036854775807
theorem encSp_cut (a b : SpX) (x y : List Int) (ha : SpF a) (hb : SpF b) (h : encSp a ++ x = encSp b ++ y) : a = b ∧ x = y := by
  unfold encSp at h; rw [List.append_assoc, List.append_assoc] at h
  obtain ⟨⟨a1, a2⟩, ⟨b1, b2⟩⟩ := And.intro ha hb
  unfold TxF at a1 a2 b1 b2
  obtain ⟨h1, h⟩ := encT_cut (by omega) (by omega) h
  obtain ⟨h2, h⟩ := encT_cut (by omega) (by omega) h
  cases a; cases b; simp_all
theorem encWr_cut (a b : WrX) (x y : List Int) (ha : WrF a) (hb : WrF b) (h : encWr a ++ x = encWr b ++ y) : a = b ∧ x = y := by
  unfold encWr at h; simp only [List.append_assoc] at h
  obtain ⟨⟨a1, a2⟩, ⟨b1, b2⟩⟩ := And.intro ha hb
  unfold TxF at a1 a2 b1 b2
  obtain ⟨h1, h⟩ := encT_cut (by omega) (by omega) h
  obtain ⟨h3, h⟩ := encF_cut h
  obtain ⟨h2, h⟩ := encT_cut (by omega) (by omega) h
  cases a; cases b; simp_all
theorem stampB_cut {a b c d : Int} {x y : List Int} (ha : In64 a) (hb : In64 b) (hc : In64 c) (hd : In64 d) (h : stampB a b ++ x = stampB c d ++ y) : (a = c ∧ b = d) ∧ x = y := by
  obtain ⟨h1, h2⟩ := List.append_inj h (by rw [stampB_len, stampB_len])
  unfold stampB at h1
  obtain ⟨h3, h4⟩ := List.append_inj h1 (by rw [bePre_len, bePre_len])
  have k3 := congrArg beVal h3
  have k4 := congrArg beVal h4
  have bd : ∀ {v : Int}, In64 v → 0 ≤ orderI v ∧ orderI v ≤ 18446744073709551615 := fun {v} h => by unfold orderI; obtain ⟨h0, h1⟩ := h; omega
  rw [beVal_8 _ (bd ha).1 (bd ha).2, beVal_8 _ (bd hc).1 (bd hc).2] at k3
  rw [beVal_8 _ (bd hb).1 (bd hb).2, beVal_8 _ (bd hd).1 (bd hd).2] at k4
  unfold orderI at k3 k4
  exact ⟨⟨by omega, by omega⟩, h2⟩
theorem encCm_inj {c d : CmX} (hc : CmF c) (hd : CmF d) (h : encCm c = encCm d) : c = d := by
  have h : encCm c ++ [] = encCm d ++ [] := by rw [h]
  unfold encCm encHd encY encSps encWrs at h
  simp only [List.append_assoc, List.cons_append, List.nil_append, List.cons.injEq, true_and] at h
  obtain ⟨h1, h⟩ := encN_cut hc.k hd.k h
  obtain ⟨h2, h⟩ := encN_cut hc.e hd.e h
  obtain ⟨h3, h⟩ := encN_cut hc.n hd.n h
  obtain ⟨h4, h⟩ := encN_cut hc.h hd.h h
  obtain ⟨h5, h⟩ := encN_cut hc.yn hd.yn h
  obtain ⟨h6, h⟩ := encN_cut hc.yl hd.yl h
  obtain ⟨h7, h⟩ := encN_cut hc.ys hd.ys h
  obtain ⟨h8, h⟩ := encN_cut hc.ya hd.ya h
  obtain ⟨⟨h9, h10⟩, h⟩ := stampB_cut hc.sw hc.st hd.sw hd.st h
  obtain ⟨h11, h⟩ := encN_cut hc.w hd.w h
  obtain ⟨h12, h⟩ := encF_cut h
  obtain ⟨h13, h⟩ := encN_cut ⟨by omega, by have := hc.nsp; omega⟩ ⟨by omega, by have := hd.nsp; omega⟩ h
  obtain ⟨h14, h⟩ := encL_cut encSp_cut hc.sp hd.sp (by omega) h
  obtain ⟨h15, h⟩ := encN_cut ⟨by omega, by have := hc.nwr; omega⟩ ⟨by omega, by have := hd.nwr; omega⟩ h
  obtain ⟨h16, -⟩ := encL_cut encWr_cut hc.wr hd.wr (by omega) h
  cases c; cases d; simp_all
end Go.Proofs.Ytmhmlpfkdpjlaaa
