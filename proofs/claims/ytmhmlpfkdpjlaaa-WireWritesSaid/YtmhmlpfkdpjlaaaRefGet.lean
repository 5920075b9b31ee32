/- The contract of the reference's Get. -/
import Derived.Test.YtmhmlpfkdpjlaaaRefBits
namespace Go.Proofs.Ytmhmlpfkdpjlaaa
open Go.RowKit

set_option maxHeartbeats 1000000 in
theorem refGet_arg (v : Value) (p n : Int) (w : World) (h : n < 1 ∨ 8 < n ∨ p < 0) :
    Calls Try.prog 78 #[v, .int .i64 p, .int .i64 n] w fun e w' => e = .returned (.tuple #[.int .u64 0, .int .i64 1]) ∧ w = w' := by
  by_cases h1 : n < 1
  · clear h
    go_enter Try.func78, Try.ntmps78
    go_wp2
    go_ret2
    exact ⟨rfl, rfl⟩
  · by_cases h2 : 8 < n
    · clear h
      go_enter Try.func78, Try.ntmps78
      go_wp2
      go_ret2
      exact ⟨rfl, rfl⟩
    · have h3 : p < 0 := by omega
      clear h
      go_enter Try.func78, Try.ntmps78
      go_wp2
      go_ret2
      exact ⟨rfl, rfl⟩

set_option maxHeartbeats 1000000 in
theorem refGet_short (B : Nat) (v : Value) (xs : List Int) (p n : Int) (w : World) (hs : Sl B w v 1 xs.length (byt xs)) (hn : 1 ≤ n) (hn' : n ≤ 8) (hp : 0 ≤ p) (h : (xs.length : Int) - n < p) :
    Calls Try.prog 78 #[v, .int .i64 p, .int .i64 n] w fun e w' => e = .returned (.tuple #[.int .u64 0, .int .i64 2]) ∧ w = w' := by
  obtain ⟨a, cap, rfl, h1, h2, -, -⟩ := hs.form
  clear hs
  unfold maxLen at h2
  by_cases hq : (xs.length : Int) < p
  · go_enter Try.func78, Try.ntmps78
    go_wp2
    go_ret2
    exact ⟨rfl, rfl⟩
  · have hz : (xs.length : Int) - p < n := by omega
    go_enter Try.func78, Try.ntmps78
    go_wp2
    go_ret2
    exact ⟨rfl, rfl⟩

set_option maxHeartbeats 1000000 in
theorem refGet_ok (B : Nat) (v : Value) (xs : List Int) (hx : ∀ x ∈ xs, 0 ≤ x ∧ x ≤ 255) (p n : Nat) (w : World) (hs : Sl B w v 1 xs.length (byt xs)) (hn : 1 ≤ n) (hn' : n ≤ 8) (h : p + n ≤ xs.length) :
    Calls Try.prog 78 #[v, .int .i64 p, .int .i64 n] w fun e w' => e = .returned (.tuple #[.int .u64 (beVal ((xs.drop p).take n)), .int .i64 0]) ∧ w = w' := by
  have HX := Lib.hid (fun k => fun x (hm : x ∈ ((xs.drop p).take n).take k) => hx x (List.mem_of_mem_drop (List.mem_of_mem_take (List.mem_of_mem_take hm))))
  obtain ⟨a, cap, rfl, h1, h2, -, h3⟩ := hs.form
  obtain ⟨g, o, rfl, hg, -⟩ := h3 0 (by omega)
  have hcell : ∀ j, j < xs.length → w.cell? ⟨g, o + j, none⟩ = some (.int .u8 (xs.getD j 0)) := fun j hj => by
    obtain ⟨g', o', e, _, hc⟩ := h3 j hj
    simp only [Option.some.injEq, Addr.mk.injEq, and_true] at e
    obtain ⟨rfl, rfl⟩ := e
    rw [hc]; simp [byt, hj, List.getD]
  have HC := Lib.hid hcell
  clear hs h3 hcell hx
  unfold maxLen at h2
  have hlen : ((xs.drop p).take n).length = n := by rw [List.length_take, List.length_drop]; omega
  have HLEN := Lib.hid hlen
  clear hlen
  go_enter Try.func78, Try.ntmps78
  go_wp2
  go_loop [8, 9] (fun y i => ∃ (k : Nat) (s : Int), k ≤ n ∧ i = .int .i64 k ∧ y = .int .u64 s ∧ Hid (s = beVal (((xs.drop p).take n).take k))) (fun _ i => n - (intOf i).toNat)
  case atStart => exact ⟨0, 0, by omega, rfl, rfl, rfl⟩
  case round =>
    obtain ⟨k, s, hk, rfl, rfl, hs⟩ := hrel
    by_cases hlt : k < n
    · have hb : 0 ≤ s ∧ s ≤ 72057594037927935 := by rw [hs.out]; exact beVal_56 _ (by rw [List.length_take]; omega) (HX.out k)
      obtain ⟨hb0, hb1⟩ := hb
      obtain ⟨c, hc0, hc1, hcell, HS⟩ : ∃ c : Int, 0 ≤ c ∧ c ≤ 255 ∧ w.cell? ⟨g, o + (p + k), none⟩ = some (.int .u8 c) ∧ Hid (beVal (((xs.drop p).take n).take (k + 1)) = s * 256 + c) := by
        have e : (((xs.drop p).take n))[k]'(by rw [HLEN.out]; exact hlt) = xs[p + k]'(by omega) := by rw [List.getElem_take, List.getElem_drop]
        have e2 : ((xs.drop p).take n).take (k + 1) = ((xs.drop p).take n).take k ++ [xs[p + k]'(by omega)] := by
          rw [List.take_add_one, List.getElem?_eq_getElem (by rw [HLEN.out]; exact hlt), e]; rfl
        have hm := HX.out (k + 1) (xs[p + k]'(by omega)) (by rw [e2]; simp)
        refine ⟨xs[p + k]'(by omega), hm.1, hm.2, ?_, ?_⟩
        · rw [HC.out (p + k) (by omega)]; simp [List.getD, List.getElem?_eq_getElem (show p + k < xs.length by omega)]
        · show _ = _
          rw [e2, beVal_snoc, hs.out]
      go_wp2
      go_round
      case rel => exact ⟨k + 1, s * 256 + c, by omega, by go_num, rfl, HS.out.symm⟩
      case measure => simp [intOf]; omega
    · obtain rfl : k = n := by omega
      go_wp2
      go_ret2
      refine ⟨congrArg (fun z => Ending.returned (Value.tuple #[Value.int .u64 z, Value.int .i64 0])) ?_, rfl⟩
      rw [hs.out, List.take_of_length_le (Nat.le_of_eq HLEN.out)]
end Go.Proofs.Ytmhmlpfkdpjlaaa
