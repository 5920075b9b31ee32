import Derived.Test.YtjaabakobpabjaaPlainBits
import Derived.Test.YtjaabakobpabjaaGet
import Derived.Test.YtjaabakobpabjaaLogD
import Derived.Deep.Onto
import Derived.Deep.RegionHeld3
import Derived.Deep.DeepCutAuto
import Derived.Deep.AppendLies
import Derived.Laws.BytesArg
import Derived.Test.YtjaabakobpabjaaCalm
/- Contracts of package bits and its reference: signs. -/
namespace Go.Proofs.Ytjaabakobpabjaa
open Go.RowKit

theorem ret_int {k : IntKind} {a b : Int} (h : a = b) : Ending.returned (.int k a) = .returned (.int k b) := by rw [h]

set_option maxHeartbeats 400000 in
theorem zig_any (v : Int) (w : World) (h0 : -9223372036854775808 ≤ v) (h1 : v ≤ 9223372036854775807) :
    Calls Try.prog 70 #[.int .i64 v] w fun e w' => e = .returned (.int .u64 (zigI v)) ∧ w = w' := by
  have HO := Lib.hid (zig_prog v h0 h1)
  go_enter Try.func70, Try.ntmps70
  go_wp2
  go_ret
  exact ⟨ret_int HO.out, rfl⟩

set_option maxHeartbeats 400000 in
theorem zag_any (v : Int) (w : World) (h0 : 0 ≤ v) (h1 : v ≤ 18446744073709551615) :
    Calls Try.prog 55 #[.int .u64 v] w fun e w' => e = .returned (.int .i64 (zagI v)) ∧ w = w' := by
  have HO := Lib.hid (zag_prog v h0 h1)
  go_enter Try.func55, Try.ntmps55
  go_wp2
  go_ret
  exact ⟨ret_int HO.out, rfl⟩



end Go.Proofs.Ytjaabakobpabjaa
/- Contracts of the reference's Put and Get. -/
namespace Go.Proofs.Ytjaabakobpabjaa
open Go.RowKit

theorem div_step (v : Int) (k : Nat) : v / 2 ^ (8 * k) / 256 = v / 2 ^ (8 * (k + 1)) := by
  rw [Int.ediv_ediv_of_nonneg (Int.le_of_lt (Int.pow_pos (by decide))), show (8 * (k + 1)) = 8 * k + 8 by omega, Int.pow_add]; rfl
end Go.Proofs.Ytjaabakobpabjaa
/- The contract of the reference's Get. -/
namespace Go.Proofs.Ytjaabakobpabjaa
open Go.RowKit

end Go.Proofs.Ytjaabakobpabjaa
/- Contracts of stamps as bytes: how they are laid, and which bytes are a stamp; package stamp and its reference. -/
namespace Go.Proofs.Ytjaabakobpabjaa
open Go.RowKit

/-- The bytes of a stamp. -/
def stampB (a b : Int) : List Int := bePre (orderI a) 8 8 ++ bePre (orderI b) 8 8
end Go.Proofs.Ytjaabakobpabjaa
/- Bytes in the order of the numbers that they lay. -/
namespace Go.Proofs.Ytjaabakobpabjaa
open Go.RowKit

theorem beVal_acc : ∀ (l : List Int) (a : Int), l.foldl (fun a c => a * 256 + c) a = a * 256 ^ l.length + beVal l
  | [], a => by simp [beVal]
  | c :: l, a => by
    rw [List.foldl_cons, beVal_acc l, List.length_cons, Int.pow_succ]
    have e : beVal (c :: l) = (0 * 256 + c) * 256 ^ l.length + beVal l := by
      show (c :: l).foldl _ 0 = _
      rw [List.foldl_cons, beVal_acc l]
    rw [e, Int.add_mul, Int.add_mul, Int.mul_comm (256 ^ l.length) 256, ← Int.mul_assoc a 256]
    omega
theorem beVal_cons (c : Int) (l : List Int) : beVal (c :: l) = c * 256 ^ l.length + beVal l := by
  show (c :: l).foldl _ 0 = _
  rw [List.foldl_cons, beVal_acc]; simp
theorem beVal_pre (v : Int) (n : Nat) : ∀ k : Nat, k ≤ n → 0 ≤ v → v < 2 ^ (8 * n) → beVal (bePre v n k) = v / 2 ^ (8 * (n - k))
  | 0, _, h0, h1 => by
    rw [Int.ediv_eq_zero_of_lt h0 (by simpa using h1)]; rfl
  | k + 1, hk, h0, h1 => by
    rw [bePre, beVal_snoc, beVal_pre v n k (by omega) h0 h1, show (8 * ((n : Int) - 1 - k)).toNat = 8 * (n - (k + 1)) by omega, show n - k = n - (k + 1) + 1 by omega, ← div_step]
    omega
theorem bePre_bd (v n : Int) (k : Nat) : ∀ x ∈ bePre v n k, 0 ≤ x ∧ x ≤ 255 := by
  induction k with
  | zero => intro x hx; cases hx
  | succ k ih =>
    intro x hx
    rw [bePre, List.mem_append, List.mem_singleton] at hx
    rcases hx with hx | rfl
    · exact ih x hx
    · omega
end Go.Proofs.Ytjaabakobpabjaa
/- Wire: the plain law: a command's bytes, and that no two commands have the same. -/
namespace Go.Proofs.Ytjaabakobpabjaa

/-- An int64. -/
def In64 (n : Int) : Prop := -9223372036854775808 ≤ n ∧ n ≤ 9223372036854775807
structure SpX where
  lo : ByteArray
  hi : ByteArray
deriving DecidableEq
structure WrX where
  k : ByteArray
  r : Bool
  d : ByteArray
deriving DecidableEq
structure CmX where
  k : Int
  e : Int
  n : Int
  h : Int
  yn : Int
  yl : Int
  ys : Int
  ya : Int
  sw : Int
  st : Int
  w : Int
  yes : Bool
  sp : List SpX
  wr : List WrX
deriving DecidableEq
def txW (t : ByteArray) : List Int := t.data.toList.map fun b => (b.toNat : Int)
theorem txW_len (t : ByteArray) : (txW t).length = t.size := by unfold txW; rw [List.length_map, Array.length_toList]; rfl
theorem txW_oct (t : ByteArray) : ∀ x ∈ txW t, 0 ≤ x ∧ x ≤ 255 := by
  intro x hx
  simp only [txW, List.mem_map] at hx
  obtain ⟨b, _, rfl⟩ := hx
  have := b.toNat_lt
  omega
theorem txW_inj {s t : ByteArray} (h : txW s = txW t) : s = t := by
  unfold txW at h
  have hi : ∀ {a b : UInt8}, ((a.toNat : Nat) : Int) = ((b.toNat : Nat) : Int) → a = b := fun {a b} h => UInt8.toNat_inj.1 (by omega)
  have h2 := (List.map_inj_right (fun a b h => hi h)).1 h
  cases s; cases t
  simp only [ByteArray.mk.injEq]
  exact Array.toList_inj.1 h2
def encN (v : Int) : List Int := varN (zigI v).toNat
def encT (s : ByteArray) : List Int := varN s.size ++ txW s
def encF (b : Bool) : List Int := [if b then 1 else 0]
def encY (n l s a : Int) : List Int := encN n ++ encN l ++ encN s ++ encN a
def encSp (x : SpX) : List Int := encT x.lo ++ encT x.hi
def encWr (x : WrX) : List Int := encT x.k ++ encF x.r ++ encT x.d
def encHd (c : CmX) : List Int := [1] ++ encN c.k ++ encN c.e ++ encN c.n ++ encN c.h ++ encY c.yn c.yl c.ys c.ya ++ stampB c.sw c.st ++ encN c.w ++ encF c.yes
def encSps (l : List SpX) : List Int := encN l.length ++ l.flatMap encSp
def encWrs (l : List WrX) : List Int := encN l.length ++ l.flatMap encWr
def encCm (c : CmX) : List Int := encHd c ++ encSps c.sp ++ encWrs c.wr
theorem zigI_fit {v : Int} (h : In64 v) : 0 ≤ zigI v ∧ zigI v ≤ 18446744073709551615 := by unfold zigI; obtain ⟨h0, h1⟩ := h; split <;> omega
def TxF (s : ByteArray) : Prop := s.size ≤ 9223372036854775807
def SpF (x : SpX) : Prop := TxF x.lo ∧ TxF x.hi
def WrF (x : WrX) : Prop := TxF x.k ∧ TxF x.d
structure CmF (c : CmX) : Prop where
  k : In64 c.k
  e : In64 c.e
  n : In64 c.n
  h : In64 c.h
  yn : In64 c.yn
  yl : In64 c.yl
  ys : In64 c.ys
  ya : In64 c.ya
  sw : In64 c.sw
  st : In64 c.st
  w : In64 c.w
  sp : ∀ x ∈ c.sp, SpF x
  wr : ∀ x ∈ c.wr, WrF x
  nsp : c.sp.length ≤ 9223372036854775807
  nwr : c.wr.length ≤ 9223372036854775807
end Go.Proofs.Ytjaabakobpabjaa
/- Contracts of numbers in seven bits a byte: how they are written, by package bits and by its reference. -/
namespace Go.Proofs.Ytjaabakobpabjaa
open Go.RowKit

theorem or_more (c : Int) (h0 : 0 ≤ c) (h1 : c ≤ 255) : bits .or .u8 c 128 = c % 128 + 128 := by
  obtain ⟨n, rfl⟩ := Int.eq_ofNat_of_zero_le h0
  have h : n < 256 := by omega
  have : ∀ k : Fin 256, bits .or .u8 (k.val : Int) 128 = (k.val : Int) % 128 + 128 := by decide +kernel
  exact this ⟨n, h⟩
theorem byt_snoc (xs : List Int) (c : Int) : byt xs ++ [.int .u8 c] = byt (xs ++ [c]) := by simp [byt]

/-- Bytes behind bytes, in a row of the call's own. -/
def VarEnd (w : World) (ys : List Int) (e : Ending) (w' : World) : Prop := ∃ v', e = .returned v' ∧ w'.ownsRow w.heap.size 5 1 v' ys.length (byt ys) ∧ Below w.heap.size w w'

set_option maxRecDepth 100000 in
set_option maxHeartbeats 4000000 in
theorem var_any (B : Nat) (v : Value) (xs : List Int) (x : Int) (w : World) (hs : Sl B w v 1 xs.length (byt xs)) (hB : B ≤ w.heap.size) (hb : (xs.length : Int) ≤ 140737488355300) (h0 : 0 ≤ x) (h1 : x ≤ 18446744073709551615) :
    Calls Try.prog 69 #[v, .int .u64 x] w (VarEnd w (xs ++ varN x.toNat)) := by
  obtain ⟨i0, hi, hz0, hz1, hz2⟩ := info_parts Try.infoU8
  obtain ⟨l0, l1⟩ := varN_len 10 x.toNat (by have : 128 ^ 10 = 1180591620717411303424 := (by decide); omega) (by omega)
  have HR := Lib.hid (fun (u : World) (h : Below w.heap.size w u) => room_any B v xs 10 u (hs.keep (h.mono hB)) (Nat.le_trans hB h.size) (by omega) (by omega))
  clear hs
  go_enter Try.func69, Try.ntmps69
  go_wp2_with fail
  refine (HR.out _ (Below.refl _ _)).mono ?_; rintro e w1 ⟨v1, rfl, hown, hb1⟩
  clear HR
  go_wp2_with fail
  go_loopw [1, 5] (fun q u wr => ∃ (n : Nat) (pre : List Int), q = .int .u64 (n : Int) ∧ n ≤ 18446744073709551615 ∧ Hid (varN x.toNat = pre ++ varN n) ∧ pre.length + (varN n).length ≤ 10 ∧ wr.ownsRow w.heap.size 5 1 u (xs.length + pre.length) (byt (xs ++ pre)) ∧ Below w.heap.size w wr) (fun q _ _ => (intOf q).toNat)
  case atStart => exact ⟨x.toNat, [], by rw [Int.toNat_of_nonneg h0], by omega, rfl, by simpa using l1, by simpa using hown, hb1⟩
  case round =>
    obtain ⟨n, pre, rfl, hn, hv, hl, hown, hb'⟩ := hrel
    have hsz := hb'.size
    by_cases hlt : n < 128
    · have hv' : Hid (varN x.toNat = pre ++ [(n : Int)]) := by show _ = _; rw [hv.out, varN_small n hlt]
      have hl' : pre.length + 1 ≤ 10 := by rw [varN_small n hlt] at hl; exact hl
      clear hv hl
      go_wp2_with (at_builtin; refine wpList_append_own _ rfl _ _ 32 rfl w.heap.size 5 i0 (.int .u8 0) 1 1 Try.underlying32 hi hz0 hz1 hz2 rfl (by decide) _ _ _ rfl (hown.alloc _) ⟨_, 0, none⟩ 1 1 [.int .u8 (n : Int)] rfl rfl (cell_one_new _ _ _) ?c2 ?c3 ?c4 ?c5 ?_)
      case c2 => simp [Value.oneCell']
      case c3 => unfold maxLen; omega
      case c4 => omega
      case c5 => simp; omega
      intro v' w2 hown' hgrow _
      have hb2 : Below w.heap.size w w2 := (hb'.alloc hsz _).grown hgrow (by simp; omega) (fun j hj => (hown.lt j hj).1)
      have HO : Hid (w2.ownsRow w.heap.size 5 1 v' (xs ++ varN x.toNat).length (byt (xs ++ varN x.toNat))) := by
        show World.ownsRow _ _ _ _ _ _ _
        rw [hv'.out, ← List.append_assoc, ← byt_snoc, List.length_append, List.length_append]; exact hown'
      clear hown' hgrow hb' hown
      go_wp2
      go_ret
      exact ⟨_, rfl, HO.out, hb2⟩
    · obtain ⟨c, hc⟩ : ∃ c : Int, bits .or .u8 ((n : Int) % 256) 128 = c := ⟨_, rfl⟩
      have hor : Hid (c = ((n % 128 + 128 : Nat) : Int)) := by show _ = _; rw [← hc, or_more ((n : Int) % 256) (by omega) (by omega)]; omega
      have hv' : Hid (varN x.toNat = (pre ++ [c]) ++ varN (n / 128)) := by show _ = _; rw [hv.out, varN_step n hlt, List.append_assoc, hor.out]; rfl
      have hl' : pre.length + 1 + (varN (n / 128)).length ≤ 10 := by rw [varN_step n hlt, List.length_cons] at hl; omega
      clear hv hl
      go_wp2_with (at_builtin; refine wpList_append_own _ rfl _ _ 32 rfl w.heap.size 5 i0 (.int .u8 0) 1 1 Try.underlying32 hi hz0 hz1 hz2 rfl (by decide) _ _ _ rfl (hown.alloc _) ⟨_, 0, none⟩ 1 1 [.int .u8 c] rfl rfl (cell_one_new _ _ _) ?b2 ?b3 ?b4 ?b5 ?_)
      case b2 => simp [Value.oneCell']
      case b3 => unfold maxLen; omega
      case b4 => omega
      case b5 => simp; omega
      intro v' w2 hown' hgrow _
      have hb2 : Below w.heap.size w w2 := (hb'.alloc hsz _).grown hgrow (by simp; omega) (fun j hj => (hown.lt j hj).1)
      have HO : Hid (w2.ownsRow w.heap.size 5 1 v' (xs.length + (pre ++ [c]).length) (byt (xs ++ (pre ++ [c])))) := by
        show World.ownsRow _ _ _ _ _ _ _
        rw [← List.append_assoc, ← byt_snoc, List.length_append]; exact hown'
      clear hown' hgrow hb' hown hc
      go_wp2
      go_roundw
      case rel => exact ⟨n / 128, pre ++ [c], rfl, by omega, hv', by rw [List.length_append]; exact hl', HO.out, hb2⟩
      case measure => simp [intOf]; omega
end Go.Proofs.Ytjaabakobpabjaa
/- Contracts: the reference's bytes of a number; texts behind their length. -/
namespace Go.Proofs.Ytjaabakobpabjaa
open Go.RowKit

set_option maxRecDepth 100000 in
set_option maxHeartbeats 2000000 in
theorem text_any (B : Nat) (v u : Value) (xs ys : List Int) (w : World) (hs : Sl B w v 1 xs.length (byt xs)) (hu : Sl B w u 1 ys.length (byt ys)) (hB : B ≤ w.heap.size) (hb : (xs.length : Int) + ys.length ≤ 140737488355300) :
    Calls Try.prog 40 #[v, u] w (VarEnd w (xs ++ varN ys.length ++ ys)) := by
  obtain ⟨i0, hi, hz0, hz1, hz2⟩ := info_parts Try.infoU8
  have HU := Lib.hid hu
  have HV := Lib.hid (var_any B v xs (ys.length : Int) w hs hB (by omega) (by omega) (by omega))
  obtain ⟨l0, l1⟩ := varN_len 10 ys.length (by have : 128 ^ 10 = 1180591620717411303424 := (by decide); omega) (by omega)
  obtain ⟨a, cap, rfl, h1, h2, -, -⟩ := hu.form
  unfold maxLen at h2
  clear hs hu
  go_enter Try.func40, Try.ntmps40
  go_wp2_with fail
  refine HV.out.mono ?_; rintro e w1 ⟨v1, rfl, hown, hb1⟩
  rw [Int.toNat_natCast] at hown
  have HU1 := Lib.hid (HU.out.keep (hb1.mono hB))
  have hs1 := hb1.size
  have hln : (xs ++ varN ys.length).length = xs.length + (varN ys.length).length := List.length_append
  go_wp2_with (at_builtin; refine wpList_append_sl rfl (.tmp 9) (.tmp 10) 32 rfl w.heap.size 5 i0 (.int .u8 0) 1 1 Try.underlying32 hi hz0 hz1 hz2 rfl (by decide) _ _ _ rfl hown B _ ys.length (byt ys) rfl HU1.out (byt_one _) ?d1 ?d2 ?d3 ?_)
  case d1 => unfold maxLen; omega
  case d2 => omega
  case d3 => exact hs1
  intro v2 w2 hown2 hgrow2
  have hb2 : Below w.heap.size w w2 := hb1.grown hgrow2 hs1 (fun k hk => (hown.lt k hk).1)
  rw [byt_app] at hown2
  have HO : Hid (w2.ownsRow w.heap.size 5 1 v2 (xs ++ varN ys.length ++ ys).length (byt (xs ++ varN ys.length ++ ys))) := by show World.ownsRow _ _ _ _ _ _ _; rw [List.length_append, List.length_append]; exact hown2
  clear hown hown2 hgrow2 HU1 hln
  go_wp2_with fail
  go_ret
  exact ⟨_, rfl, HO.out, hb2⟩

end Go.Proofs.Ytjaabakobpabjaa
/- A slice of ints, whoever owns it: where its numbers lie. -/
namespace Go.Proofs.Ytjaabakobpabjaa
open Go.ChangeShapes Go.WideShapes Go.ChangeAt Go.RowKit

def NumsAt (w : World) (p : Option Addr) (rs : List Int) : Prop := ∀ j, (hj : j < rs.length) → ∃ g o, p = some ⟨g, o, none⟩ ∧ g < w.heap.size ∧ w.cell? ⟨g, o + j, none⟩ = some (.int .i64 rs[j])
theorem NumsAt.keep {w w' : World} {p : Option Addr} {rs : List Int} (h : NumsAt w p rs) {B : Nat} (hb : Below B w w') (hB : w.heap.size ≤ B) : NumsAt w' p rs := fun j hj => by
  obtain ⟨g, o, e, hg, h1⟩ := h j hj
  exact ⟨g, o, e, Nat.lt_of_lt_of_le hg hb.size, (hb.cell (p := ⟨g, o + j, none⟩) (by show g < B; omega)).trans h1⟩
theorem NumsAt.of_cells {w : World} {g : Nat} {cs : Array Value} {t : TypeId} {rs : List Int} (h : w.heap[g]? = some (.cells cs t (0, 0))) (e : ∀ j, (hj : j < rs.length) → cs[j]? = some (.int .i64 rs[j])) : NumsAt w (some ⟨g, 0, none⟩) rs := fun j hj =>
  ⟨g, 0, rfl, block_lt h, by rw [Nat.zero_add, block_cells h]; exact e j hj⟩
theorem NumsAt.nil (w : World) (p : Option Addr) : NumsAt w p [] := fun j hj => absurd hj (by simp)
end Go.Proofs.Ytjaabakobpabjaa
