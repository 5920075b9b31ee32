import Derived.Test.YtmhmlpfkdpjlaaaPut
import Derived.Test.YtmhmlpfkdpjlaaaPlainBits
/- The contract of bits.Get. -/
namespace Go.Proofs.Ytmhmlpfkdpjlaaa
open Go.RowKit

/-- The number that bytes are, the highest first. -/
def beVal : List Int → Int
  | l => l.foldl (fun a c => a * 256 + c) 0
theorem beVal_snoc (l : List Int) (c : Int) : beVal (l ++ [c]) = beVal l * 256 + c := by simp [beVal, List.foldl_append]
theorem beVal_bound : ∀ (n : Nat) (l : List Int), l.length = n → (∀ x ∈ l, 0 ≤ x ∧ x ≤ 255) → 0 ≤ beVal l ∧ beVal l < 256 ^ n := by
  intro n
  induction n with
  | zero => intro l hl _; obtain rfl := List.eq_nil_of_length_eq_zero hl; simp [beVal]
  | succ n ih =>
    intro l hl hx
    have hne : l ≠ [] := by intro h; rw [h] at hl; simp at hl
    have e := List.dropLast_concat_getLast hne
    have h1 := ih l.dropLast (by simp [hl]) (fun x hm => hx x (List.dropLast_subset _ hm))
    have h2 := hx (l.getLast hne) (List.getLast_mem hne)
    rw [← e, beVal_snoc, Int.pow_succ]
    omega
theorem beVal_56 (l : List Int) (h : l.length ≤ 7) (hx : ∀ x ∈ l, 0 ≤ x ∧ x ≤ 255) : 0 ≤ beVal l ∧ beVal l ≤ 72057594037927935 := by
  have h1 := beVal_bound l.length l rfl hx
  have h2 : (256 : Int) ^ l.length ≤ 256 ^ 7 := by
    generalize l.length = k at h
    have : k = 0 ∨ k = 1 ∨ k = 2 ∨ k = 3 ∨ k = 4 ∨ k = 5 ∨ k = 6 ∨ k = 7 := by omega
    rcases this with h | h | h | h | h | h | h | h <;> subst h <;> decide
  have h3 : (256 : Int) ^ 7 = 72057594037927936 := by decide
  omega

set_option maxHeartbeats 1000000 in
theorem get_short (B : Nat) (v : Value) (xs : List Int) (p n : Int) (w : World) (hs : Sl B w v 1 xs.length (byt xs)) (hn : 1 ≤ n) (hn' : n ≤ 8) (hp : 0 ≤ p) (h : (xs.length : Int) - n < p) :
    Calls Try.prog 89 #[v, .int .i64 p, .int .i64 n] w fun e w' => e = .returned (.tuple #[.int .u64 0, .int .i64 2]) ∧ w = w' := by
  obtain ⟨a, cap, rfl, h1, h2, -, -⟩ := hs.form
  clear hs
  unfold maxLen at h2
  go_enter Try.func89, Try.ntmps89
  go_wp2
  go_ret2
  exact ⟨rfl, rfl⟩

set_option maxHeartbeats 1000000 in
theorem get_ok (B : Nat) (v : Value) (xs : List Int) (hx : ∀ x ∈ xs, 0 ≤ x ∧ x ≤ 255) (p n : Nat) (w : World) (hs : Sl B w v 1 xs.length (byt xs)) (hn : 1 ≤ n) (hn' : n ≤ 8) (h : p + n ≤ xs.length) :
    Calls Try.prog 89 #[v, .int .i64 p, .int .i64 n] w fun e w' => e = .returned (.tuple #[.int .u64 (beVal ((xs.drop p).take n)), .int .i64 0]) ∧ w = w' := by
  have HX := Lib.hid (fun k => fun x (hm : x ∈ ((xs.drop p).take n).take k) => hx x (List.mem_of_mem_drop (List.mem_of_mem_take (List.mem_of_mem_take hm))))
  obtain ⟨a, cap, rfl, h1, h2, -, h3⟩ := hs.form
  obtain ⟨g, o, rfl, hg, -⟩ := h3 0 (by omega)
  have hcell : ∀ j, j < xs.length → w.cell? ⟨g, o + j, none⟩ = some (.int .u8 (xs.getD j 0)) := fun j hj => by
    obtain ⟨g', o', e, _, hc⟩ := h3 j hj
    simp only [Option.some.injEq, Addr.mk.injEq, and_true] at e
    obtain ⟨rfl, rfl⟩ := e
    rw [hc]; simp [byt, hj, List.getD]
  have HC := Lib.hid hcell
  clear hs h3 hcell hx
  unfold maxLen at h2
  have hlen : ((xs.drop p).take n).length = n := by rw [List.length_take, List.length_drop]; omega
  have HLEN := Lib.hid hlen
  clear hlen
  go_enter Try.func89, Try.ntmps89
  go_wp2
  go_loop [8, 36] (fun y i => ∃ (k : Nat) (s : Int), k ≤ n ∧ i = .int .i64 k ∧ y = .int .u64 s ∧ Hid (s = beVal (((xs.drop p).take n).take k))) (fun _ i => n - (intOf i).toNat)
  case atStart => exact ⟨0, 0, by omega, rfl, rfl, rfl⟩
  case round =>
    obtain ⟨k, s, hk, rfl, rfl, hs⟩ := hrel
    by_cases hlt : k < n
    · have hb : 0 ≤ s ∧ s ≤ 72057594037927935 := by rw [hs.out]; exact beVal_56 _ (by rw [List.length_take]; omega) (HX.out k)
      obtain ⟨hb0, hb1⟩ := hb
      obtain ⟨c, hc0, hc1, hcell, HS⟩ : ∃ c : Int, 0 ≤ c ∧ c ≤ 255 ∧ w.cell? ⟨g, o + p + k, none⟩ = some (.int .u8 c) ∧ Hid (beVal (((xs.drop p).take n).take (k + 1)) = s * 256 + c) := by
        have e : (((xs.drop p).take n))[k]'(by rw [HLEN.out]; exact hlt) = xs[p + k]'(by omega) := by rw [List.getElem_take, List.getElem_drop]
        have e2 : ((xs.drop p).take n).take (k + 1) = ((xs.drop p).take n).take k ++ [xs[p + k]'(by omega)] := by
          rw [List.take_add_one, List.getElem?_eq_getElem (by rw [HLEN.out]; exact hlt), e]; rfl
        have hm := HX.out (k + 1) (xs[p + k]'(by omega)) (by rw [e2]; simp)
        refine ⟨xs[p + k]'(by omega), hm.1, hm.2, ?_, ?_⟩
        · rw [Nat.add_assoc, HC.out (p + k) (by omega)]; simp [List.getD, List.getElem?_eq_getElem (show p + k < xs.length by omega)]
        · show _ = _
          rw [e2, beVal_snoc, hs.out]
      go_wp2
      go_round
      case rel => exact ⟨k + 1, s * 256 + c, by omega, by go_num, rfl, HS.out.symm⟩
      case measure => simp [intOf]; omega
    · obtain rfl : k = n := by omega
      go_wp2
      go_ret2
      refine ⟨congrArg (fun z => Ending.returned (Value.tuple #[Value.int .u64 z, Value.int .i64 0])) ?_, rfl⟩
      rw [hs.out, List.take_of_length_le (Nat.le_of_eq HLEN.out)]
end Go.Proofs.Ytmhmlpfkdpjlaaa
/- Contracts of package bits and its reference: signs. -/
namespace Go.Proofs.Ytmhmlpfkdpjlaaa
open Go.RowKit

theorem ret_int {k : IntKind} {a b : Int} (h : a = b) : Ending.returned (.int k a) = .returned (.int k b) := by rw [h]

set_option maxHeartbeats 400000 in
theorem zig_any (v : Int) (w : World) (h0 : -9223372036854775808 ≤ v) (h1 : v ≤ 9223372036854775807) :
    Calls Try.prog 80 #[.int .i64 v] w fun e w' => e = .returned (.int .u64 (zigI v)) ∧ w = w' := by
  have HO := Lib.hid (zig_prog v h0 h1)
  go_enter Try.func80, Try.ntmps80
  go_wp2
  go_ret
  exact ⟨ret_int HO.out, rfl⟩

set_option maxHeartbeats 400000 in
theorem zag_any (v : Int) (w : World) (h0 : 0 ≤ v) (h1 : v ≤ 18446744073709551615) :
    Calls Try.prog 94 #[.int .u64 v] w fun e w' => e = .returned (.int .i64 (zagI v)) ∧ w = w' := by
  have HO := Lib.hid (zag_prog v h0 h1)
  go_enter Try.func94, Try.ntmps94
  go_wp2
  go_ret
  exact ⟨ret_int HO.out, rfl⟩

set_option maxHeartbeats 400000 in
theorem order_any (v : Int) (w : World) (h0 : -9223372036854775808 ≤ v) (h1 : v ≤ 9223372036854775807) :
    Calls Try.prog 103 #[.int .i64 v] w fun e w' => e = .returned (.int .u64 (orderI v)) ∧ w = w' := by
  have HO := Lib.hid (order_prog v h0 h1)
  go_enter Try.func103, Try.ntmps103
  go_wp2
  go_ret
  exact ⟨ret_int HO.out, rfl⟩

set_option maxHeartbeats 400000 in
theorem back_any (v : Int) (w : World) (h0 : 0 ≤ v) (h1 : v ≤ 18446744073709551615) :
    Calls Try.prog 106 #[.int .u64 v] w fun e w' => e = .returned (.int .i64 (backI v)) ∧ w = w' := by
  have HO := Lib.hid (back_prog v h0 h1)
  go_enter Try.func106, Try.ntmps106
  go_wp2
  go_ret
  exact ⟨ret_int HO.out, rfl⟩

set_option maxHeartbeats 400000 in
theorem refZig_any (v : Int) (w : World) (h0 : -9223372036854775808 ≤ v) (h1 : v ≤ 9223372036854775807) :
    Calls Try.prog 86 #[.int .i64 v] w fun e w' => e = .returned (.int .u64 (zigI v)) ∧ w = w' := by
  by_cases h : 0 ≤ v
  · go_enter Try.func86, Try.ntmps86
    go_wp2
    go_ret
    exact ⟨ret_int (by unfold zigI; first | omega | (split <;> omega)), rfl⟩
  · go_enter Try.func86, Try.ntmps86
    go_wp2
    go_ret
    exact ⟨ret_int (by unfold zigI; first | omega | (split <;> omega)), rfl⟩

set_option maxHeartbeats 400000 in
theorem refZag_any (v : Int) (w : World) (h0 : 0 ≤ v) (h1 : v ≤ 18446744073709551615) :
    Calls Try.prog 97 #[.int .u64 v] w fun e w' => e = .returned (.int .i64 (zagI v)) ∧ w = w' := by
  by_cases h : v % 2 = 0
  · go_enter Try.func97, Try.ntmps97
    go_wp2
    go_ret
    exact ⟨ret_int (by unfold zagI; first | omega | (split <;> omega)), rfl⟩
  · go_enter Try.func97, Try.ntmps97
    go_wp2
    go_ret
    exact ⟨ret_int (by unfold zagI; first | omega | (split <;> omega)), rfl⟩

set_option maxHeartbeats 400000 in
theorem refOrder_any (v : Int) (w : World) (h0 : -9223372036854775808 ≤ v) (h1 : v ≤ 9223372036854775807) :
    Calls Try.prog 105 #[.int .i64 v] w fun e w' => e = .returned (.int .u64 (orderI v)) ∧ w = w' := by
  by_cases h : 0 ≤ v
  · go_enter Try.func105, Try.ntmps105
    go_wp2
    go_ret
    exact ⟨ret_int (by unfold orderI; first | omega | (split <;> omega)), rfl⟩
  · go_enter Try.func105, Try.ntmps105
    go_wp2
    go_ret
    exact ⟨ret_int (by unfold orderI; first | omega | (split <;> omega)), rfl⟩

set_option maxHeartbeats 400000 in
theorem refBack_any (v : Int) (w : World) (h0 : 0 ≤ v) (h1 : v ≤ 18446744073709551615) :
    Calls Try.prog 107 #[.int .u64 v] w fun e w' => e = .returned (.int .i64 (backI v)) ∧ w = w' := by
  by_cases h : 9223372036854775808 ≤ v
  · go_enter Try.func107, Try.ntmps107
    go_wp2
    go_ret
    exact ⟨ret_int (by unfold backI; first | omega | (split <;> omega)), rfl⟩
  · go_enter Try.func107, Try.ntmps107
    go_wp2
    go_ret
    exact ⟨ret_int (by unfold backI; first | omega | (split <;> omega)), rfl⟩


end Go.Proofs.Ytmhmlpfkdpjlaaa
