import Derived.Test.YtjaabakobpabjaaVar
import Derived.Test.YtjaabakobpabjaaCalm
/- Contracts: the reference's bytes of a number; texts behind their length. -/
namespace Go.Proofs.Ytjaabakobpabjaa
open Go.RowKit

set_option maxRecDepth 100000 in
set_option maxHeartbeats 4000000 in
theorem refVar_any (B : Nat) (v : Value) (xs : List Int) (x : Int) (w : World) (hs : Sl B w v 1 xs.length (byt xs)) (hB : B ≤ w.heap.size) (hb : (xs.length : Int) ≤ 140737488355300) (h0 : 0 ≤ x) (h1 : x ≤ 18446744073709551615) :
    Calls Try.prog 78 #[v, .int .u64 x] w (VarEnd w (xs ++ varN x.toNat)) := by
  obtain ⟨i0, hi, hz0, hz1, hz2⟩ := info_parts Try.infoU8
  obtain ⟨l0, l1⟩ := varN_len 10 x.toNat (by have : 128 ^ 10 = 1180591620717411303424 := (by decide); omega) (by omega)
  have HS := Lib.hid (hs.keep (below_alloc w (.cells #[] 5) hB))
  clear hs
  have OE := own_empty w 5 w.heap.size (Nat.le_refl _)
  go_enter Try.func78, Try.ntmps78
  go_wp2_with (at_builtin; refine wpList_append_sl rfl (.tmp 6) (.tmp 7) 32 rfl w.heap.size 5 i0 (.int .u8 0) 1 1 Try.underlying32 hi hz0 hz1 hz2 rfl (by decide) _ 0 [] rfl OE B _ xs.length (byt xs) rfl HS.out (byt_one _) ?d1 ?d2 ?d3 ?_)
  case d1 => unfold maxLen; omega
  case d2 => omega
  case d3 => simp
  intro v1 w1 hown hgrow
  try simp only [Nat.zero_add, List.nil_append] at hown
  have hb1 : Below w.heap.size w w1 := (below_alloc w (.cells #[] 5) (Nat.le_refl _)).grown hgrow (by simp) (fun k hk => by simp [Value.ownBlock] at hk; omega)
  clear hgrow OE HS
  go_wp2_with fail
  go_loopw [1, 5] (fun q u wr => ∃ (n : Nat) (pre : List Int), q = .int .u64 (n : Int) ∧ n ≤ 18446744073709551615 ∧ Hid (varN x.toNat = pre ++ varN n) ∧ pre.length + (varN n).length ≤ 10 ∧ wr.ownsRow w.heap.size 5 1 u (xs.length + pre.length) (byt (xs ++ pre)) ∧ Below w.heap.size w wr) (fun q _ _ => (intOf q).toNat)
  case atStart => exact ⟨x.toNat, [], by rw [Int.toNat_of_nonneg h0], by omega, rfl, by simpa using l1, by simpa using hown, hb1⟩
  case round =>
    obtain ⟨n, pre, rfl, hn, hv, hl, hown, hb'⟩ := hrel
    have hsz := hb'.size
    by_cases hlt : n < 128
    · have hv' : Hid (varN x.toNat = pre ++ [(n : Int)]) := by show _ = _; rw [hv.out, varN_small n hlt]
      have hl' : pre.length + 1 ≤ 10 := by rw [varN_small n hlt] at hl; exact hl
      clear hv hl
      go_wp2_with (at_builtin; refine wpList_append_own _ rfl _ _ 32 rfl w.heap.size 5 i0 (.int .u8 0) 1 1 Try.underlying32 hi hz0 hz1 hz2 rfl (by decide) _ _ _ rfl (hown.alloc _) ⟨_, 0, none⟩ 1 1 [.int .u8 (n : Int)] rfl rfl (cell_one_new _ _ _) ?c2 ?c3 ?c4 ?c5 ?_)
      case c2 => simp [Value.oneCell']
      case c3 => unfold maxLen; omega
      case c4 => omega
      case c5 => simp; omega
      intro v' w2 hown' hgrow _
      have hb2 : Below w.heap.size w w2 := (hb'.alloc hsz _).grown hgrow (by simp; omega) (fun j hj => (hown.lt j hj).1)
      have HO : Hid (w2.ownsRow w.heap.size 5 1 v' (xs ++ varN x.toNat).length (byt (xs ++ varN x.toNat))) := by
        show World.ownsRow _ _ _ _ _ _ _
        rw [hv'.out, ← List.append_assoc, ← byt_snoc, List.length_append, List.length_append]; exact hown'
      clear hown' hgrow hb' hown
      go_wp2
      go_ret
      exact ⟨_, rfl, HO.out, hb2⟩
    · obtain ⟨c, hc⟩ : ∃ c : Int, (n : Int) % 128 + 128 = c := ⟨_, rfl⟩
      have hor : Hid (c = ((n % 128 + 128 : Nat) : Int)) := by show _ = _; rw [← hc]; omega
      have hv' : Hid (varN x.toNat = (pre ++ [c]) ++ varN (n / 128)) := by show _ = _; rw [hv.out, varN_step n hlt, List.append_assoc, hor.out]; rfl
      have hl' : pre.length + 1 + (varN (n / 128)).length ≤ 10 := by rw [varN_step n hlt, List.length_cons] at hl; omega
      clear hv hl
      go_wp2_with (at_builtin; refine wpList_append_own _ rfl _ _ 32 rfl w.heap.size 5 i0 (.int .u8 0) 1 1 Try.underlying32 hi hz0 hz1 hz2 rfl (by decide) _ _ _ rfl (hown.alloc _) ⟨_, 0, none⟩ 1 1 [.int .u8 c] rfl rfl (cell_one_new _ _ _) ?b2 ?b3 ?b4 ?b5 ?_)
      case b2 => simp [Value.oneCell']
      case b3 => unfold maxLen; omega
      case b4 => omega
      case b5 => simp; omega
      intro v' w2 hown' hgrow _
      have hb2 : Below w.heap.size w w2 := (hb'.alloc hsz _).grown hgrow (by simp; omega) (fun j hj => (hown.lt j hj).1)
      have HO : Hid (w2.ownsRow w.heap.size 5 1 v' (xs.length + (pre ++ [c]).length) (byt (xs ++ (pre ++ [c])))) := by
        show World.ownsRow _ _ _ _ _ _ _
        rw [← List.append_assoc, ← byt_snoc, List.length_append]; exact hown'
      clear hown' hgrow hb' hown hc
      go_wp2
      go_roundw
      case rel => exact ⟨n / 128, pre ++ [c], rfl, by omega, hv', by rw [List.length_append]; exact hl', HO.out, hb2⟩
      case measure => simp [intOf]; omega

set_option maxRecDepth 100000 in
set_option maxHeartbeats 2000000 in
theorem text_any (B : Nat) (v u : Value) (xs ys : List Int) (w : World) (hs : Sl B w v 1 xs.length (byt xs)) (hu : Sl B w u 1 ys.length (byt ys)) (hB : B ≤ w.heap.size) (hb : (xs.length : Int) + ys.length ≤ 140737488355300) :
    Calls Try.prog 40 #[v, u] w (VarEnd w (xs ++ varN ys.length ++ ys)) := by
  obtain ⟨i0, hi, hz0, hz1, hz2⟩ := info_parts Try.infoU8
  have HU := Lib.hid hu
  have HV := Lib.hid (var_any B v xs (ys.length : Int) w hs hB (by omega) (by omega) (by omega))
  obtain ⟨l0, l1⟩ := varN_len 10 ys.length (by have : 128 ^ 10 = 1180591620717411303424 := (by decide); omega) (by omega)
  obtain ⟨a, cap, rfl, h1, h2, -, -⟩ := hu.form
  unfold maxLen at h2
  clear hs hu
  go_enter Try.func40, Try.ntmps40
  go_wp2_with fail
  refine HV.out.mono ?_; rintro e w1 ⟨v1, rfl, hown, hb1⟩
  rw [Int.toNat_natCast] at hown
  have HU1 := Lib.hid (HU.out.keep (hb1.mono hB))
  have hs1 := hb1.size
  have hln : (xs ++ varN ys.length).length = xs.length + (varN ys.length).length := List.length_append
  go_wp2_with (at_builtin; refine wpList_append_sl rfl (.tmp 9) (.tmp 10) 32 rfl w.heap.size 5 i0 (.int .u8 0) 1 1 Try.underlying32 hi hz0 hz1 hz2 rfl (by decide) _ _ _ rfl hown B _ ys.length (byt ys) rfl HU1.out (byt_one _) ?d1 ?d2 ?d3 ?_)
  case d1 => unfold maxLen; omega
  case d2 => omega
  case d3 => exact hs1
  intro v2 w2 hown2 hgrow2
  have hb2 : Below w.heap.size w w2 := hb1.grown hgrow2 hs1 (fun k hk => (hown.lt k hk).1)
  rw [byt_app] at hown2
  have HO : Hid (w2.ownsRow w.heap.size 5 1 v2 (xs ++ varN ys.length ++ ys).length (byt (xs ++ varN ys.length ++ ys))) := by show World.ownsRow _ _ _ _ _ _ _; rw [List.length_append, List.length_append]; exact hown2
  clear hown hown2 hgrow2 HU1 hln
  go_wp2_with fail
  go_ret
  exact ⟨_, rfl, HO.out, hb2⟩

set_option maxRecDepth 100000 in
set_option maxHeartbeats 2000000 in
theorem refText_any (B : Nat) (v u : Value) (xs ys : List Int) (w : World) (hs : Sl B w v 1 xs.length (byt xs)) (hu : Sl B w u 1 ys.length (byt ys)) (hB : B ≤ w.heap.size) (hb : (xs.length : Int) + ys.length ≤ 140737488355300) :
    Calls Try.prog 47 #[v, u] w (VarEnd w (xs ++ varN ys.length ++ ys)) := by
  obtain ⟨i0, hi, hz0, hz1, hz2⟩ := info_parts Try.infoU8
  have HU := Lib.hid hu
  have HV := Lib.hid (refVar_any B v xs (ys.length : Int) w hs hB (by omega) (by omega) (by omega))
  obtain ⟨l0, l1⟩ := varN_len 10 ys.length (by have : 128 ^ 10 = 1180591620717411303424 := (by decide); omega) (by omega)
  obtain ⟨a, cap, rfl, h1, h2, -, -⟩ := hu.form
  unfold maxLen at h2
  clear hs hu
  go_enter Try.func47, Try.ntmps47
  go_wp2_with fail
  refine HV.out.mono ?_; rintro e w1 ⟨v1, rfl, hown, hb1⟩
  rw [Int.toNat_natCast] at hown
  have HU1 := Lib.hid (HU.out.keep (hb1.mono hB))
  have hs1 := hb1.size
  have hln : (xs ++ varN ys.length).length = xs.length + (varN ys.length).length := List.length_append
  go_wp2_with (at_builtin; refine wpList_append_sl rfl (.tmp 9) (.tmp 10) 32 rfl w.heap.size 5 i0 (.int .u8 0) 1 1 Try.underlying32 hi hz0 hz1 hz2 rfl (by decide) _ _ _ rfl hown B _ ys.length (byt ys) rfl HU1.out (byt_one _) ?d1 ?d2 ?d3 ?_)
  case d1 => unfold maxLen; omega
  case d2 => omega
  case d3 => exact hs1
  intro v2 w2 hown2 hgrow2
  have hb2 : Below w.heap.size w w2 := hb1.grown hgrow2 hs1 (fun k hk => (hown.lt k hk).1)
  rw [byt_app] at hown2
  have HO : Hid (w2.ownsRow w.heap.size 5 1 v2 (xs ++ varN ys.length ++ ys).length (byt (xs ++ varN ys.length ++ ys))) := by show World.ownsRow _ _ _ _ _ _ _; rw [List.length_append, List.length_append]; exact hown2
  clear hown hown2 hgrow2 HU1 hln
  go_wp2_with fail
  go_ret
  exact ⟨_, rfl, HO.out, hb2⟩
end Go.Proofs.Ytjaabakobpabjaa
/- A slice of ints, whoever owns it: where its numbers lie. -/
namespace Go.Proofs.Ytjaabakobpabjaa
open Go.ChangeShapes Go.WideShapes Go.ChangeAt Go.RowKit

def NumsAt (w : World) (p : Option Addr) (rs : List Int) : Prop := ∀ j, (hj : j < rs.length) → ∃ g o, p = some ⟨g, o, none⟩ ∧ g < w.heap.size ∧ w.cell? ⟨g, o + j, none⟩ = some (.int .i64 rs[j])
theorem NumsAt.keep {w w' : World} {p : Option Addr} {rs : List Int} (h : NumsAt w p rs) {B : Nat} (hb : Below B w w') (hB : w.heap.size ≤ B) : NumsAt w' p rs := fun j hj => by
  obtain ⟨g, o, e, hg, h1⟩ := h j hj
  exact ⟨g, o, e, Nat.lt_of_lt_of_le hg hb.size, (hb.cell (p := ⟨g, o + j, none⟩) (by show g < B; omega)).trans h1⟩
theorem NumsAt.of_cells {w : World} {g : Nat} {cs : Array Value} {t : TypeId} {rs : List Int} (h : w.heap[g]? = some (.cells cs t (0, 0))) (e : ∀ j, (hj : j < rs.length) → cs[j]? = some (.int .i64 rs[j])) : NumsAt w (some ⟨g, 0, none⟩) rs := fun j hj =>
  ⟨g, 0, rfl, block_lt h, by rw [Nat.zero_add, block_cells h]; exact e j hj⟩
theorem NumsAt.nil (w : World) (p : Option Addr) : NumsAt w p [] := fun j hj => absurd hj (by simp)
end Go.Proofs.Ytjaabakobpabjaa
