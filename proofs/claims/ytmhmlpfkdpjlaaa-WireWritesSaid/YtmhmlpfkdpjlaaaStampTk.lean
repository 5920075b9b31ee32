/- Contracts: which bytes are a stamp; package stamp and its reference. -/
import Derived.Test.YtmhmlpfkdpjlaaaStampBy
namespace Go.Proofs.Ytmhmlpfkdpjlaaa
open Go.RowKit

theorem take_bd (xs : List Int) (hx : ∀ x ∈ xs, 0 ≤ x ∧ x ≤ 255) (p : Nat) (h : p + 8 ≤ xs.length) : 0 ≤ beVal ((xs.drop p).take 8) ∧ beVal ((xs.drop p).take 8) ≤ 18446744073709551615 := by
  have h1 := beVal_bound 8 ((xs.drop p).take 8) (by rw [List.length_take, List.length_drop]; omega) (fun x hm => hx x (List.mem_of_mem_drop (List.mem_of_mem_take hm)))
  have h2 : (256 : Int) ^ 8 = 18446744073709551616 := by decide
  omega
theorem below_sets {B : Nat} {W w : World} (h : Below B W w) {p : Nat} (hp : B ≤ p) (x y : Value) : Below B W ((w.setCell ⟨p, 0, none⟩ x).setCell ⟨p, 1, none⟩ y) := (h.setCell (p := ⟨p, 0, none⟩) hp x).setCell (p := ⟨p, 1, none⟩) hp y

set_option maxRecDepth 100000 in
set_option maxHeartbeats 2000000 in
theorem take_any (B : Nat) (v : Value) (xs : List Int) (hx : ∀ x ∈ xs, 0 ≤ x ∧ x ≤ 255) (w : World) (hs : Sl B w v 1 xs.length (byt xs)) (hB : B ≤ w.heap.size) :
    Calls Try.prog 92 #[v] w fun e w' => e = .returned (.tuple #[.agg #[.int .i64 (takeW xs), .int .i64 (takeT xs)], .int .i64 (takeE xs)]) ∧ Below w.heap.size w w' := by
  have HSL := Lib.hid (hs.keep (below_alloc w (.cells #[.int .i64 0, .int .i64 0] 25) hB))
  obtain ⟨a, cap, rfl, h1, h2, -, -⟩ := hs.form
  unfold maxLen at h2
  clear hs
  by_cases hl : xs.length < 16
  · have HO : Hid (takeW xs = 0 ∧ takeT xs = 0 ∧ takeE xs = 2) := by show _ ∧ _ ∧ _; simp [takeW, takeT, takeE, hl]
    clear HSL
    go_enter Try.func92, Try.ntmps92
    go_wp2_with fail
    refine bodyPost_ret (v := .tuple #[.agg #[.int .i64 0, .int .i64 0], .int .i64 2]) (by simp [results, Try.results92, go_sem]) rfl ⟨by rw [HO.out.1, HO.out.2.1, HO.out.2.2], below_alloc w _ (Nat.le_refl _)⟩
  · by_cases hg : 16 < xs.length
    · have HO : Hid (takeW xs = 0 ∧ takeT xs = 0 ∧ takeE xs = 3) := by show _ ∧ _ ∧ _; simp [takeW, takeT, takeE, hl, hg]
      clear HSL
      go_enter Try.func92, Try.ntmps92
      go_wp2_with fail
      refine bodyPost_ret (v := .tuple #[.agg #[.int .i64 0, .int .i64 0], .int .i64 3]) (by simp [results, Try.results92, go_sem]) rfl ⟨by rw [HO.out.1, HO.out.2.1, HO.out.2.2], below_alloc w _ (Nat.le_refl _)⟩
    · have HO : Hid (takeW xs = backI (beVal ((xs.drop 0).take 8)) ∧ takeT xs = backI (beVal ((xs.drop 8).take 8)) ∧ takeE xs = 0) := by show _ ∧ _ ∧ _; simp [takeW, takeT, takeE, hl, hg]
      obtain ⟨p0, p1⟩ := take_bd xs hx 0 (by omega)
      obtain ⟨q0, q1⟩ := take_bd xs hx 8 (by omega)
      have G1 := Lib.hid (get_ok B _ xs hx 0 8 _ HSL.out (by decide) (by decide) (by omega))
      have G2 := Lib.hid (get_ok B _ xs hx 8 8 _ HSL.out (by decide) (by decide) (by omega))
      obtain ⟨x, ex⟩ : ∃ x, beVal ((xs.drop 0).take 8) = x := ⟨_, rfl⟩
      obtain ⟨y, ey⟩ : ∃ y, beVal ((xs.drop 8).take 8) = y := ⟨_, rfl⟩
      rw [ex] at p0 p1 HO G1
      rw [ey] at q0 q1 HO G2
      clear ex ey HSL
      go_enter Try.func92, Try.ntmps92
      go_wp2_with fail
      refine G1.out.mono ?_; rintro e w1 ⟨rfl, rfl⟩
      go_wp2_with fail
      refine G2.out.mono ?_; rintro e w1 ⟨rfl, rfl⟩
      go_wp2_with fail
      refine (back_any _ _ p0 p1).mono ?_; rintro e w1 ⟨rfl, rfl⟩
      go_wp2_with fail
      refine (back_any _ _ q0 q1).mono ?_; rintro e w1 ⟨rfl, rfl⟩
      go_wp2_with fail
      refine bodyPost_ret (v := .tuple #[.agg #[.int .i64 (backI x), .int .i64 (backI y)], .int .i64 0]) (by simp [results, Try.results92, go_sem]) rfl ⟨by rw [HO.out.1, HO.out.2.1, HO.out.2.2], below_alloc w _ (Nat.le_refl _)⟩

set_option maxRecDepth 100000 in
set_option maxHeartbeats 2000000 in
theorem refTake_any (B : Nat) (v : Value) (xs : List Int) (hx : ∀ x ∈ xs, 0 ≤ x ∧ x ≤ 255) (w : World) (hs : Sl B w v 1 xs.length (byt xs)) (hB : B ≤ w.heap.size) :
    Calls Try.prog 98 #[v] w fun e w' => e = .returned (.tuple #[.agg #[.int .i64 (takeW xs), .int .i64 (takeT xs)], .int .i64 (takeE xs)]) ∧ Below w.heap.size w w' := by
  have HSL := Lib.hid (hs.keep (below_alloc w (.cells #[.int .i64 0, .int .i64 0] 25) hB))
  obtain ⟨a, cap, rfl, h1, h2, -, -⟩ := hs.form
  unfold maxLen at h2
  clear hs
  by_cases hl : xs.length < 16
  · have HO : Hid (takeW xs = 0 ∧ takeT xs = 0 ∧ takeE xs = 2) := by show _ ∧ _ ∧ _; simp [takeW, takeT, takeE, hl]
    clear HSL
    go_enter Try.func98, Try.ntmps98
    go_wp2_with fail
    refine bodyPost_ret (v := .tuple #[.agg #[.int .i64 0, .int .i64 0], .int .i64 2]) (by simp [results, Try.results98, go_sem]) rfl ⟨by rw [HO.out.1, HO.out.2.1, HO.out.2.2], below_alloc w _ (Nat.le_refl _)⟩
  · by_cases hg : 16 < xs.length
    · have HO : Hid (takeW xs = 0 ∧ takeT xs = 0 ∧ takeE xs = 3) := by show _ ∧ _ ∧ _; simp [takeW, takeT, takeE, hl, hg]
      clear HSL
      go_enter Try.func98, Try.ntmps98
      go_wp2_with fail
      refine bodyPost_ret (v := .tuple #[.agg #[.int .i64 0, .int .i64 0], .int .i64 3]) (by simp [results, Try.results98, go_sem]) rfl ⟨by rw [HO.out.1, HO.out.2.1, HO.out.2.2], below_alloc w _ (Nat.le_refl _)⟩
    · have HO : Hid (takeW xs = backI (beVal ((xs.drop 0).take 8)) ∧ takeT xs = backI (beVal ((xs.drop 8).take 8)) ∧ takeE xs = 0) := by show _ ∧ _ ∧ _; simp [takeW, takeT, takeE, hl, hg]
      obtain ⟨p0, p1⟩ := take_bd xs hx 0 (by omega)
      obtain ⟨q0, q1⟩ := take_bd xs hx 8 (by omega)
      have G1 := Lib.hid (refGet_ok B _ xs hx 0 8 _ HSL.out (by decide) (by decide) (by omega))
      have G2 := Lib.hid (refGet_ok B _ xs hx 8 8 _ HSL.out (by decide) (by decide) (by omega))
      obtain ⟨x, ex⟩ : ∃ x, beVal ((xs.drop 0).take 8) = x := ⟨_, rfl⟩
      obtain ⟨y, ey⟩ : ∃ y, beVal ((xs.drop 8).take 8) = y := ⟨_, rfl⟩
      rw [ex] at p0 p1 HO G1
      rw [ey] at q0 q1 HO G2
      clear ex ey HSL
      go_enter Try.func98, Try.ntmps98
      go_wp2_with fail
      refine G1.out.mono ?_; rintro e w1 ⟨rfl, rfl⟩
      go_wp2_with fail
      refine G2.out.mono ?_; rintro e w1 ⟨rfl, rfl⟩
      go_wp2_with fail
      refine (refBack_any _ _ p0 p1).mono ?_; rintro e w1 ⟨rfl, rfl⟩
      go_wp2_with fail
      refine (refBack_any _ _ q0 q1).mono ?_; rintro e w1 ⟨rfl, rfl⟩
      go_wp2_with fail
      refine bodyPost_ret (v := .tuple #[.agg #[.int .i64 (backI x), .int .i64 (backI y)], .int .i64 0]) (by simp [results, Try.results98, go_sem]) rfl ⟨by rw [HO.out.1, HO.out.2.1, HO.out.2.2], below_alloc w _ (Nat.le_refl _)⟩
end Go.Proofs.Ytmhmlpfkdpjlaaa
