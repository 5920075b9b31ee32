/- Contracts of the reference's Put and Get. -/
import Derived.Test.YtjaabakobpabjaaBits
import Derived.Test.YtjaabakobpabjaaLogD
namespace Go.Proofs.Ytjaabakobpabjaa
open Go.RowKit

theorem bePre_get (v n : Int) : ∀ (k j : Nat), j < k → (bePre v n k)[j]? = some (v / 2 ^ (8 * (n - 1 - j)).toNat % 256)
  | 0, j, h => absurd h (by omega)
  | k + 1, j, h => by
    rw [bePre]
    by_cases hj : j < k
    · rw [List.getElem?_append_left (by rw [bePre_len]; exact hj)]; exact bePre_get v n k j hj
    · obtain rfl : j = k := by omega
      rw [List.getElem?_append_right (by rw [bePre_len]; omega), bePre_len, Nat.sub_self]; rfl
/-- The bytes from number m on. -/
theorem bePre_drop (v : Int) (n m : Nat) (h : m < n) : (bePre v n n).drop m = (v / 2 ^ (8 * (n - 1 - m)) % 256) :: (bePre v n n).drop (m + 1) := by
  have hl := bePre_len v n n
  rw [List.drop_eq_getElem_cons (by omega)]
  congr 1
  have := bePre_get v n n m h
  rw [List.getElem?_eq_getElem (by omega)] at this
  have e := Option.some.inj this
  rw [e, show (8 * ((n : Int) - 1 - m)).toNat = 8 * (n - 1 - m) by omega]
theorem div_step (v : Int) (k : Nat) : v / 2 ^ (8 * k) / 256 = v / 2 ^ (8 * (k + 1)) := by
  rw [Int.ediv_ediv_of_nonneg (Int.le_of_lt (Int.pow_pos (by decide))), show (8 * (k + 1)) = 8 * k + 8 by omega, Int.pow_add]; rfl
theorem set_drop {α : Type} (L : List α) (i : Nat) (v : α) (h : i < L.length) : (L.set i v).drop i = v :: L.drop (i + 1) := by
  rw [List.drop_eq_getElem_cons (by simpa using h), List.getElem_set_self, List.drop_set_of_lt (by omega)]
/-- A row of no element, with its block. -/
theorem own_empty (w : World) (e : TypeId) (B : Nat) (h : B ≤ w.heap.size) : (w.alloc (.cells #[] e)).ownsRow B e 1 (.slice (some ⟨w.heap.size, 0, none⟩) 0 0) 0 [] :=
  ⟨rfl, .inr ⟨w.heap.size, 0, #[], rfl, h, heap_alloc_new w _, Nat.le_refl _, Nat.zero_le _, rfl, rfl⟩⟩

theorem below_alloc (w : World) (o : Obj) {B : Nat} (h : B ≤ w.heap.size) : Below B w (w.alloc o) := (Below.refl _ _).alloc h _

/-- What the reference's Put comes to: bytes in a row of its own, or none if the number is too great. -/
def PutEnd (w : World) (x : Int) (n : Nat) (ys : List Int) (e : Ending) (w' : World) : Prop :=
  (x < 2 ^ (8 * n) → ∃ v', e = .returned (.tuple #[v', .int .i64 0]) ∧ w'.ownsRow w.heap.size 5 1 v' ys.length (byt ys)) ∧ (2 ^ (8 * n) ≤ x → e = .returned (.tuple #[.slice none 0 0, .int .i64 5])) ∧ Below w.heap.size w w'

set_option maxRecDepth 100000 in
set_option maxHeartbeats 4000000 in
theorem refPut_any (B : Nat) (v : Value) (xs : List Int) (x : Int) (n : Nat) (w : World) (hs : Sl B w v 1 xs.length (byt xs)) (hB : B ≤ w.heap.size) (hb : (xs.length : Int) ≤ 140737488355320)
    (h0 : 0 ≤ x) (h1 : x ≤ 18446744073709551615) (hn : 1 ≤ n) (hn' : n ≤ 8) :
    Calls Try.prog 75 #[v, .int .u64 x, .int .i64 n] w (PutEnd w x n (xs ++ bePre x n n)) := by
  obtain ⟨i0, hi, hz0, hz1, hz2⟩ := info_parts Try.infoU8
  have HS := Lib.hid hs
  clear hs
  go_enter Try.func75, Try.ntmps75
  go_wp2_with (at_make; refine wpList_make_full _ rfl _ _ 32 rfl w.heap.size 5 i0 (.int .u8 0) 1 Try.underlying32 hi hz0 hz1 .i64 .i64 (n : Int) (n : Int) n rfl rfl rfl rfl ?c1 ?c2 ?c3 ?_)
  case c1 => rw [hz2]; omega
  case c2 => unfold maxLen; omega
  case c3 => exact Nat.le_refl _
  intro w1 hown hgrow
  have hb1 : Below w.heap.size w w1 := (Below.refl _ _).grown hgrow (Nat.le_refl _) (fun k h => by cases h)
  obtain ⟨-, hrow, hlen⟩ := full_row hown
  obtain ⟨Z, hZ⟩ : ∃ Z, (madeCells #[Value.int .u8 0] n).toList = Z := ⟨_, rfl⟩
  rw [hZ] at hrow hlen
  have HR := Lib.hid (And.intro hrow hlen)
  have hbg := hb1.size
  clear hown hgrow hrow hlen hZ
  go_wp2_with fail
  go_loopw [1, 9] (fun y i wr => ∃ (m : Nat) (q : Int) (M : List Value), m ≤ n ∧ i = .int .i64 ((m : Int) - 1) ∧ y = .int .u64 q ∧ 0 ≤ q ∧ q ≤ 18446744073709551615 ∧ Hid (q = x / 2 ^ (8 * (n - m)) ∧ wr.heap[w.heap.size]? = some (.cells M.toArray 5 (0, 0)) ∧ M.length = n ∧ M.drop m = byt ((bePre x n n).drop m)) ∧ Below w.heap.size w wr) (fun _ i _ => (intOf i + 1).toNat)
  case atStart => exact ⟨n, x, Z, by omega, by go_num, rfl, h0, h1, ⟨by rw [Nat.sub_self]; simp, HR.out.1, HR.out.2, by rw [List.drop_of_length_le (by rw [HR.out.2]; omega), List.drop_of_length_le (by rw [bePre_len]; omega)]; rfl⟩, hb1⟩
  case round =>
    obtain ⟨m, q, M, hm, rfl, rfl, q0, q1, HM, hb'⟩ := hrel
    have hsz := hb'.size
    by_cases hlt : 0 < m
    · obtain ⟨m, rfl⟩ : ∃ k, m = k + 1 := ⟨m - 1, by omega⟩
      have hcell := row_cell HM.out.2.1 m
      have hfree := row_free HM.out.2.1 m
      obtain ⟨y, hy⟩ : ∃ y, M[m]? = some y := ⟨M[m]'(by rw [HM.out.2.2.1]; omega), List.getElem?_eq_getElem _⟩
      rw [hy] at hcell
      have HB := Lib.hid (hb'.setCell (p := ⟨w.heap.size, m, none⟩) (Nat.le_refl _) (.int .u8 (q % 256)))
      have HM' : Hid (q / 256 = x / 2 ^ (8 * (n - m)) ∧ (wr.setCell ⟨w.heap.size, m, none⟩ (.int .u8 (q % 256))).heap[w.heap.size]? = some (.cells (M.set m (.int .u8 (q % 256))).toArray 5 (0, 0)) ∧ (M.set m (.int .u8 (q % 256))).length = n ∧ (M.set m (.int .u8 (q % 256))).drop m = byt ((bePre x n n).drop m)) := by
        refine ⟨?_, row_set HM.out.2.1 _ _, by rw [List.length_set]; exact HM.out.2.2.1, ?_⟩
        · rw [HM.out.1, div_step, show n - (m + 1) + 1 = n - m by omega]
        · rw [set_drop M m _ (by rw [HM.out.2.2.1]; omega), HM.out.2.2.2, bePre_drop x n m (by omega), HM.out.1, show n - 1 - m = n - (m + 1) by omega]; rfl
      have hq0 : 0 ≤ q / 256 := by omega
      have hq1 : q / 256 ≤ 18446744073709551615 := by omega
      clear hy HM hb'
      go_wp2_with fail
      go_roundw
      case rel => exact ⟨m, q / 256, _, by omega, by go_num, rfl, hq0, hq1, HM', HB.out⟩
      case measure => simp [intOf]
    · obtain rfl : m = 0 := by omega
      have hq := HM.out.1
      have hM : M = byt (bePre x n n) := by simpa using HM.out.2.2.2
      have hl := HM.out.2.2.1
      have hr := HM.out.2.1
      rw [hM] at hr hl
      rw [Nat.sub_zero] at hq
      have hp : (0 : Int) < 2 ^ (8 * n) := Int.pow_pos (by decide)
      by_cases hz : q = 0
      · have hx : x < 2 ^ (8 * n) := by
          apply Classical.byContradiction; intro hc
          have : 1 ≤ x / 2 ^ (8 * n) := Int.le_ediv_of_mul_le hp (by omega)
          omega
        have HX := Lib.hid hx
        have HSR : Sl (w.heap.size + 1) wr (.slice (some ⟨w.heap.size, 0, none⟩) n n) 1 (bePre x n n).length (byt (bePre x n n)) := by
          rw [bePre_len]
          refine ⟨by rw [byt_len, bePre_len]; omega, .inr ⟨_, n, rfl, Nat.le_refl _, by unfold maxLen; omega, fun _ => ⟨_, 0, rfl, by omega, fun j _ => by rw [Nat.zero_add, row_cell hr j]⟩⟩⟩
        have HS2 := Lib.hid (HS.out.keep (hb'.mono hB))
        have HL := Lib.hid (show w.heap.size < wr.heap.size from (Array.getElem?_eq_some_iff.1 hr).1)
        subst hz
        clear HM hq hM hr hl hp hx
        have hgt : w.heap.size + 1 ≤ wr.heap.size := HL.out
        have HS3 := Lib.hid (HS2.out.keep (below_alloc wr (.cells #[] 5) (Nat.le_trans hB hsz)))
        have HSR2 := Lib.hid (HSR.keep (below_alloc wr (.cells #[] 5) hgt))
        clear HSR HS2 HL
        go_wp2_with (at_builtin; refine wpList_append_sl rfl (.tmp 34) (.tmp 35) 32 rfl w.heap.size 5 i0 (.int .u8 0) 1 1 Try.underlying32 hi hz0 hz1 hz2 rfl (by decide) _ 0 [] rfl (own_empty wr 5 w.heap.size hsz) B _ xs.length (byt xs) rfl HS3.out (byt_one _) ?d1 ?d2 ?d3 ?_)
        case d1 => unfold maxLen; omega
        case d2 => omega
        case d3 => simp; omega
        intro v2 w2 hown2 hgrow2
        have hb2 : Below (w.heap.size + 1) (wr.alloc (.cells #[] 5)) w2 := (Below.refl _ _).grown hgrow2 (by simp; omega) (fun k hk => by simp [Value.ownBlock] at hk; omega)
        have HSR3 := Lib.hid (HSR2.out.keep hb2)
        have hb3 : Below w.heap.size w w2 := (hb'.alloc hsz _).trans (hb2.mono (by omega))
        have hs3 := hb3.size
        try simp only [Nat.zero_add, List.nil_append] at hown2
        clear HSR2 hgrow2 hb2 HS3
        go_wp2_with (at_builtin; refine wpList_append_sl rfl (.tmp 36) (.tmp 37) 32 rfl w.heap.size 5 i0 (.int .u8 0) 1 1 Try.underlying32 hi hz0 hz1 hz2 rfl (by decide) _ xs.length (byt xs) rfl hown2 (w.heap.size + 1) _ n (byt (bePre x n n)) rfl (by have := HSR3.out; rwa [bePre_len] at this) (byt_one _) ?e1 ?e2 ?e3 ?_)
        case e1 => unfold maxLen; omega
        case e2 => omega
        case e3 => exact hs3
        intro v3 w3 hown3 hgrow3
        have hb4 : Below w.heap.size w w3 := hb3.grown hgrow3 hs3 (fun k hk => (hown2.lt k hk).1)
        rw [byt_app] at hown3
        have HO := Lib.hid hown3
        clear hown2 hown3 hgrow3 hb3
        go_wp2_with fail
        go_ret2
        exact ⟨fun _ => ⟨_, rfl, by rw [List.length_append, bePre_len]; exact HO.out⟩, fun h => absurd HX.out (by omega), hb4⟩
      · have hx : 2 ^ (8 * n) ≤ x := by
          apply Classical.byContradiction; intro hc
          have : x / 2 ^ (8 * n) = 0 := Int.ediv_eq_zero_of_lt h0 (by omega)
          omega
        have HX := Lib.hid hx
        have hz' : 0 < q := by omega
        clear HM hq hM hr hl hp hx hz
        go_wp2_with fail
        go_ret2
        exact ⟨fun h => absurd HX.out (by omega), fun _ => rfl, hb'⟩
end Go.Proofs.Ytjaabakobpabjaa
