/- Contracts of numbers in seven bits a byte: how they are written, by package bits and by its reference. -/
import Derived.Test.YtmhmlpfkdpjlaaaPlainVar
import Derived.Test.YtmhmlpfkdpjlaaaRefBits
import Derived.Deep.Onto
namespace Go.Proofs.Ytmhmlpfkdpjlaaa
open Go.RowKit

theorem or_more (c : Int) (h0 : 0 ≤ c) (h1 : c ≤ 255) : bits .or .u8 c 128 = c % 128 + 128 := by
  obtain ⟨n, rfl⟩ := Int.eq_ofNat_of_zero_le h0
  have h : n < 256 := by omega
  have : ∀ k : Fin 256, bits .or .u8 (k.val : Int) 128 = (k.val : Int) % 128 + 128 := by decide +kernel
  exact this ⟨n, h⟩
theorem byt_snoc (xs : List Int) (c : Int) : byt xs ++ [.int .u8 c] = byt (xs ++ [c]) := by simp [byt]

/-- Bytes behind bytes, in a row of the call's own. -/
def VarEnd (w : World) (ys : List Int) (e : Ending) (w' : World) : Prop := ∃ v', e = .returned v' ∧ w'.ownsRow w.heap.size 5 1 v' ys.length (byt ys) ∧ Below w.heap.size w w'

set_option maxRecDepth 100000 in
set_option maxHeartbeats 4000000 in
theorem var_any (B : Nat) (v : Value) (xs : List Int) (x : Int) (w : World) (hs : Sl B w v 1 xs.length (byt xs)) (hB : B ≤ w.heap.size) (hb : (xs.length : Int) ≤ 140737488355300) (h0 : 0 ≤ x) (h1 : x ≤ 18446744073709551615) :
    Calls Try.prog 79 #[v, .int .u64 x] w (VarEnd w (xs ++ varN x.toNat)) := by
  obtain ⟨i0, hi, hz0, hz1, hz2⟩ := info_parts Try.infoU8
  obtain ⟨l0, l1⟩ := varN_len 10 x.toNat (by have : 128 ^ 10 = 1180591620717411303424 := (by decide); omega) (by omega)
  have HR := Lib.hid (fun (u : World) (h : Below w.heap.size w u) => room_any B v xs 10 u (hs.keep (h.mono hB)) (Nat.le_trans hB h.size) (by omega) (by omega))
  clear hs
  go_enter Try.func79, Try.ntmps79
  go_wp2_with fail
  refine (HR.out _ (Below.refl _ _)).mono ?_; rintro e w1 ⟨v1, rfl, hown, hb1⟩
  clear HR
  go_wp2_with fail
  go_loopw [1, 5] (fun q u wr => ∃ (n : Nat) (pre : List Int), q = .int .u64 (n : Int) ∧ n ≤ 18446744073709551615 ∧ Hid (varN x.toNat = pre ++ varN n) ∧ pre.length + (varN n).length ≤ 10 ∧ wr.ownsRow w.heap.size 5 1 u (xs.length + pre.length) (byt (xs ++ pre)) ∧ Below w.heap.size w wr) (fun q _ _ => (intOf q).toNat)
  case atStart => exact ⟨x.toNat, [], by rw [Int.toNat_of_nonneg h0], by omega, rfl, by simpa using l1, by simpa using hown, hb1⟩
  case round =>
    obtain ⟨n, pre, rfl, hn, hv, hl, hown, hb'⟩ := hrel
    have hsz := hb'.size
    by_cases hlt : n < 128
    · have hv' : Hid (varN x.toNat = pre ++ [(n : Int)]) := by show _ = _; rw [hv.out, varN_small n hlt]
      have hl' : pre.length + 1 ≤ 10 := by rw [varN_small n hlt] at hl; exact hl
      clear hv hl
      go_wp2_with (at_builtin; refine wpList_append_own _ rfl _ _ 46 rfl w.heap.size 5 i0 (.int .u8 0) 1 1 Try.underlying46 hi hz0 hz1 hz2 rfl (by decide) _ _ _ rfl (hown.alloc _) ⟨_, 0, none⟩ 1 1 [.int .u8 (n : Int)] rfl rfl (cell_one_new _ _ _) ?c2 ?c3 ?c4 ?c5 ?_)
      case c2 => simp [Value.oneCell']
      case c3 => unfold maxLen; omega
      case c4 => omega
      case c5 => simp; omega
      intro v' w2 hown' hgrow _
      have hb2 : Below w.heap.size w w2 := (hb'.alloc hsz _).grown hgrow (by simp; omega) (fun j hj => (hown.lt j hj).1)
      have HO : Hid (w2.ownsRow w.heap.size 5 1 v' (xs ++ varN x.toNat).length (byt (xs ++ varN x.toNat))) := by
        show World.ownsRow _ _ _ _ _ _ _
        rw [hv'.out, ← List.append_assoc, ← byt_snoc, List.length_append, List.length_append]; exact hown'
      clear hown' hgrow hb' hown
      go_wp2
      go_ret
      exact ⟨_, rfl, HO.out, hb2⟩
    · obtain ⟨c, hc⟩ : ∃ c : Int, bits .or .u8 ((n : Int) % 256) 128 = c := ⟨_, rfl⟩
      have hor : Hid (c = ((n % 128 + 128 : Nat) : Int)) := by show _ = _; rw [← hc, or_more ((n : Int) % 256) (by omega) (by omega)]; omega
      have hv' : Hid (varN x.toNat = (pre ++ [c]) ++ varN (n / 128)) := by show _ = _; rw [hv.out, varN_step n hlt, List.append_assoc, hor.out]; rfl
      have hl' : pre.length + 1 + (varN (n / 128)).length ≤ 10 := by rw [varN_step n hlt, List.length_cons] at hl; omega
      clear hv hl
      go_wp2_with (at_builtin; refine wpList_append_own _ rfl _ _ 46 rfl w.heap.size 5 i0 (.int .u8 0) 1 1 Try.underlying46 hi hz0 hz1 hz2 rfl (by decide) _ _ _ rfl (hown.alloc _) ⟨_, 0, none⟩ 1 1 [.int .u8 c] rfl rfl (cell_one_new _ _ _) ?b2 ?b3 ?b4 ?b5 ?_)
      case b2 => simp [Value.oneCell']
      case b3 => unfold maxLen; omega
      case b4 => omega
      case b5 => simp; omega
      intro v' w2 hown' hgrow _
      have hb2 : Below w.heap.size w w2 := (hb'.alloc hsz _).grown hgrow (by simp; omega) (fun j hj => (hown.lt j hj).1)
      have HO : Hid (w2.ownsRow w.heap.size 5 1 v' (xs.length + (pre ++ [c]).length) (byt (xs ++ (pre ++ [c])))) := by
        show World.ownsRow _ _ _ _ _ _ _
        rw [← List.append_assoc, ← byt_snoc, List.length_append]; exact hown'
      clear hown' hgrow hb' hown hc
      go_wp2
      go_roundw
      case rel => exact ⟨n / 128, pre ++ [c], rfl, by omega, hv', by rw [List.length_append]; exact hl', HO.out, hb2⟩
      case measure => simp [intOf]; omega
end Go.Proofs.Ytmhmlpfkdpjlaaa
