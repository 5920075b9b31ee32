import Derived.Test.YtmhmlpfkdpjlaaaRoom
import Derived.Test.YtmhmlpfkdpjlaaaKept
import Derived.Test.YtmhmlpfkdpjlaaaPlainWire
/- Parts of slices of bytes. -/
namespace Go.Proofs.Ytmhmlpfkdpjlaaa
open Go.ChangeShapes Go.WideShapes Go.ChangeAt Go.RowKit

/-- A part of a slice. -/
theorem part_len {xs : List Int} {m q : Nat} (hm : m + q ≤ xs.length) : ((xs.drop m).take q).length = q := by rw [List.length_take, List.length_drop]; omega
theorem Sl.part {B : Nat} {w : World} {p : Option Addr} {cap m q q' : Nat} {xs : List Int} (h : Sl B w (.slice p xs.length cap) 1 xs.length (byt xs)) (hm : m + q ≤ xs.length) (hq' : q' = q) : Sl B w (.slice (Option.map (fun x => x.add m) p) q' (cap - m)) 1 ((xs.drop m).take q).length (byt ((xs.drop m).take q)) := by
  rw [hq']
  have hlen := part_len hm
  rw [hlen]
  refine ⟨by rw [byt_len, hlen]; omega, ?_⟩
  rcases h.2 with ⟨h2, h3⟩ | ⟨ad, cap', h2, h3, h4, h5⟩
  · simp only [Value.slice.injEq] at h2
    obtain ⟨rfl, h2, rfl⟩ := h2
    obtain rfl : q = 0 := by omega
    exact .inl ⟨by simp, rfl⟩
  · simp only [Value.slice.injEq] at h2
    obtain ⟨rfl, -, rfl⟩ := h2
    refine .inr ⟨ad.add m, cap - m, rfl, by omega, by omega, fun hq => ?_⟩
    obtain ⟨g, o, rfl, h6, h7⟩ := h5 (by omega)
    rw [add_plain]
    refine ⟨g, o + m, rfl, h6, fun j hj => ?_⟩
    rw [Nat.add_assoc, h7 (m + j) (by omega), byt, byt, List.getElem?_map, List.getElem?_map, List.getElem?_take, if_pos (by omega), List.getElem?_drop]
theorem Sl.part0 {B : Nat} {w : World} {p : Option Addr} {cap m q q' c' : Nat} {xs : List Int} (h : Sl B w (.slice p xs.length cap) 1 xs.length (byt xs)) (hm : m + q ≤ xs.length) (hc : cap ≤ m) (hq' : q' = q) (hc' : c' = 0) : Sl B w (.slice p q' c') 1 ((xs.drop m).take q).length (byt ((xs.drop m).take q)) := by
  rw [hq', hc']
  have hlen := part_len hm
  rw [hlen]
  refine ⟨by rw [byt_len, hlen]; omega, ?_⟩
  rcases h.2 with ⟨h2, h3⟩ | ⟨ad, cap', h2, h3, h4, h5⟩
  · simp only [Value.slice.injEq] at h2
    obtain ⟨rfl, h2, rfl⟩ := h2
    obtain rfl : q = 0 := by omega
    exact .inl ⟨rfl, rfl⟩
  · simp only [Value.slice.injEq] at h2
    obtain ⟨rfl, -, rfl⟩ := h2
    obtain rfl : q = 0 := by omega
    exact .inr ⟨ad, 0, rfl, by omega, by unfold maxLen; omega, fun hq => absurd hq (by omega)⟩

theorem Sl.partA {B : Nat} {w : World} {g o cap m q q' : Nat} {xs : List Int} (h : Sl B w (.slice (some ⟨g, o, none⟩) xs.length cap) 1 xs.length (byt xs)) (hm : m + q ≤ xs.length) (hq' : q' = q) : Sl B w (.slice (some ⟨g, o + m, none⟩) q' (cap - m)) 1 ((xs.drop m).take q).length (byt ((xs.drop m).take q)) := by
  have := h.part hm hq'
  simp only [Option.map_some, add_plain] at this
  exact this
end Go.Proofs.Ytmhmlpfkdpjlaaa
/- What one may write into of an answer is written over: nothing else is turned. -/
namespace Go.Proofs.Ytmhmlpfkdpjlaaa
open Go.ChangeShapes Go.WideShapes Go.ChangeAt Go.RowKit

theorem cells_cell {w : World} {g : Nat} {cur : Array Value} {t : TypeId} (h : w.heap[g]? = some (.cells cur t (0, 0))) (j : Nat) : w.cell? ⟨g, j, none⟩ = cur[j]? := cell_of_row w g j cur t (0, 0) h
theorem cells_set {w : World} {g : Nat} {cur : Array Value} {t : TypeId} (h : w.heap[g]? = some (.cells cur t (0, 0))) (j : Nat) (v : Value) : (w.setCell ⟨g, j, none⟩ v).heap[g]? = some (.cells (cur.setIfInBounds j v) t (0, 0)) := by
  simp [World.setCell, Array.getElem?_modify, h]

theorem grown_trans {w w1 w2 : World} {row : Option Nat} (h : w.grownBy w1 row) (g : w1.grownBy w2 row) : w.grownBy w2 row :=
  ⟨g.os.trans h.os, g.tape.trans h.tape, g.output.trans h.output, Nat.le_trans h.size g.size, fun k hk hne => (g.block k (Nat.lt_of_lt_of_le hk h.size) hne).trans (h.block k hk hne)⟩
theorem grown_refl (w : World) (row : Option Nat) : w.grownBy w row := ⟨rfl, rfl, rfl, Nat.le_refl _, fun _ _ _ => rfl⟩
theorem grown_set (w : World) (g j : Nat) (v : Value) : w.grownBy (w.setCell ⟨g, j, none⟩ v) (some g) :=
  ⟨rfl, rfl, rfl, by simp [World.setCell], fun k _ hne => by simp [World.setCell, Array.getElem?_modify]; intro h; exact absurd (by rw [h]) hne⟩

set_option maxRecDepth 100000 in
set_option maxHeartbeats 2000000 in
theorem spoil_any (base : Nat) (v : Value) (n : Nat) (xs : List Value) (w : World) (hown : w.ownsRow base 5 1 v n xs) :
    Calls Try.prog 20 #[v] w fun e w' => e = .returned (.tuple #[]) ∧ w.grownBy w' v.ownBlock := by
  rcases hown.2 with ⟨rfl, -⟩ | ⟨g, cap, cur, rfl, hg, hrow, hn, hm, hs, -⟩
  · clear hown
    go_enter Try.func20, Try.ntmps20
    go_wp2_with fail
    refine wp_loop_rounds 1 ?_
    rw [rounds_succ]
    go_wp2_with fail
    go_end0
    exact ⟨rfl, grown_refl _ _⟩
  · have HR := Lib.hid (And.intro hrow (show cur.size = cap by omega))
    unfold maxLen at hm
    clear hown hrow hs
    go_enter Try.func20, Try.ntmps20
    go_wp2_with fail
    go_loopw [3] (fun i wr => ∃ (k : Nat) (c : Array Value), k ≤ cap ∧ i = .int .i64 k ∧ Hid (wr.heap[g]? = some (.cells c 5 (0, 0)) ∧ c.size = cap) ∧ w.grownBy wr (some g)) (fun i _ => cap - (intOf i).toNat)
    case atStart => exact ⟨0, cur, by omega, rfl, HR, grown_refl _ _⟩
    case round =>
      obtain ⟨k, c, hk, rfl, HC, hb⟩ := hrel
      by_cases hlt : k < cap
      · have hcell := cells_cell HC.out.1 k
        have hfree := frozen_of_row wr g k c 5 HC.out.1
        obtain ⟨x, hx⟩ : ∃ x, c[k]? = some x := ⟨c[k]'(by rw [HC.out.2]; exact hlt), Array.getElem?_eq_getElem _⟩
        rw [hx] at hcell
        have HB := Lib.hid (grown_trans hb (grown_set wr g k (.int .u8 90)))
        have HC' : Hid ((wr.setCell ⟨g, k, none⟩ (.int .u8 90)).heap[g]? = some (.cells (c.setIfInBounds k (.int .u8 90)) 5 (0, 0)) ∧ (c.setIfInBounds k (.int .u8 90)).size = cap) := ⟨cells_set HC.out.1 _ _, by rw [Array.size_setIfInBounds]; exact HC.out.2⟩
        clear hx HC hb
        go_wp2_with fail
        go_roundw
        case rel => exact ⟨k + 1, _, by omega, by go_num, HC', HB.out⟩
        case measure => simp [intOf]; omega
      · obtain rfl : k = cap := by omega
        go_wp2_with fail
        go_end0
        exact ⟨rfl, hb⟩
end Go.Proofs.Ytmhmlpfkdpjlaaa
/- Contracts: which bytes are a stamp; package stamp and its reference. -/
namespace Go.Proofs.Ytmhmlpfkdpjlaaa
open Go.RowKit

theorem take_bd (xs : List Int) (hx : ∀ x ∈ xs, 0 ≤ x ∧ x ≤ 255) (p : Nat) (h : p + 8 ≤ xs.length) : 0 ≤ beVal ((xs.drop p).take 8) ∧ beVal ((xs.drop p).take 8) ≤ 18446744073709551615 := by
  have h1 := beVal_bound 8 ((xs.drop p).take 8) (by rw [List.length_take, List.length_drop]; omega) (fun x hm => hx x (List.mem_of_mem_drop (List.mem_of_mem_take hm)))
  have h2 : (256 : Int) ^ 8 = 18446744073709551616 := by decide
  omega
set_option maxRecDepth 100000 in
set_option maxHeartbeats 2000000 in
theorem take_any (B : Nat) (v : Value) (xs : List Int) (hx : ∀ x ∈ xs, 0 ≤ x ∧ x ≤ 255) (w : World) (hs : Sl B w v 1 xs.length (byt xs)) (hB : B ≤ w.heap.size) :
    Calls Try.prog 92 #[v] w fun e w' => e = .returned (.tuple #[.agg #[.int .i64 (takeW xs), .int .i64 (takeT xs)], .int .i64 (takeE xs)]) ∧ Below w.heap.size w w' := by
  have HSL := Lib.hid (hs.keep (below_alloc w (.cells #[.int .i64 0, .int .i64 0] 25) hB))
  obtain ⟨a, cap, rfl, h1, h2, -, -⟩ := hs.form
  unfold maxLen at h2
  clear hs
  by_cases hl : xs.length < 16
  · have HO : Hid (takeW xs = 0 ∧ takeT xs = 0 ∧ takeE xs = 2) := by show _ ∧ _ ∧ _; simp [takeW, takeT, takeE, hl]
    clear HSL
    go_enter Try.func92, Try.ntmps92
    go_wp2_with fail
    refine bodyPost_ret (v := .tuple #[.agg #[.int .i64 0, .int .i64 0], .int .i64 2]) (by simp [results, Try.results92, go_sem]) rfl ⟨by rw [HO.out.1, HO.out.2.1, HO.out.2.2], below_alloc w _ (Nat.le_refl _)⟩
  · by_cases hg : 16 < xs.length
    · have HO : Hid (takeW xs = 0 ∧ takeT xs = 0 ∧ takeE xs = 3) := by show _ ∧ _ ∧ _; simp [takeW, takeT, takeE, hl, hg]
      clear HSL
      go_enter Try.func92, Try.ntmps92
      go_wp2_with fail
      refine bodyPost_ret (v := .tuple #[.agg #[.int .i64 0, .int .i64 0], .int .i64 3]) (by simp [results, Try.results92, go_sem]) rfl ⟨by rw [HO.out.1, HO.out.2.1, HO.out.2.2], below_alloc w _ (Nat.le_refl _)⟩
    · have HO : Hid (takeW xs = backI (beVal ((xs.drop 0).take 8)) ∧ takeT xs = backI (beVal ((xs.drop 8).take 8)) ∧ takeE xs = 0) := by show _ ∧ _ ∧ _; simp [takeW, takeT, takeE, hl, hg]
      obtain ⟨p0, p1⟩ := take_bd xs hx 0 (by omega)
      obtain ⟨q0, q1⟩ := take_bd xs hx 8 (by omega)
      have G1 := Lib.hid (get_ok B _ xs hx 0 8 _ HSL.out (by decide) (by decide) (by omega))
      have G2 := Lib.hid (get_ok B _ xs hx 8 8 _ HSL.out (by decide) (by decide) (by omega))
      obtain ⟨x, ex⟩ : ∃ x, beVal ((xs.drop 0).take 8) = x := ⟨_, rfl⟩
      obtain ⟨y, ey⟩ : ∃ y, beVal ((xs.drop 8).take 8) = y := ⟨_, rfl⟩
      rw [ex] at p0 p1 HO G1
      rw [ey] at q0 q1 HO G2
      clear ex ey HSL
      go_enter Try.func92, Try.ntmps92
      go_wp2_with fail
      refine G1.out.mono ?_; rintro e w1 ⟨rfl, rfl⟩
      go_wp2_with fail
      refine G2.out.mono ?_; rintro e w1 ⟨rfl, rfl⟩
      go_wp2_with fail
      refine (back_any _ _ p0 p1).mono ?_; rintro e w1 ⟨rfl, rfl⟩
      go_wp2_with fail
      refine (back_any _ _ q0 q1).mono ?_; rintro e w1 ⟨rfl, rfl⟩
      go_wp2_with fail
      refine bodyPost_ret (v := .tuple #[.agg #[.int .i64 (backI x), .int .i64 (backI y)], .int .i64 0]) (by simp [results, Try.results92, go_sem]) rfl ⟨by rw [HO.out.1, HO.out.2.1, HO.out.2.2], below_alloc w _ (Nat.le_refl _)⟩

set_option maxRecDepth 100000 in
set_option maxHeartbeats 2000000 in
theorem refTake_any (B : Nat) (v : Value) (xs : List Int) (hx : ∀ x ∈ xs, 0 ≤ x ∧ x ≤ 255) (w : World) (hs : Sl B w v 1 xs.length (byt xs)) (hB : B ≤ w.heap.size) :
    Calls Try.prog 98 #[v] w fun e w' => e = .returned (.tuple #[.agg #[.int .i64 (takeW xs), .int .i64 (takeT xs)], .int .i64 (takeE xs)]) ∧ Below w.heap.size w w' := by
  have HSL := Lib.hid (hs.keep (below_alloc w (.cells #[.int .i64 0, .int .i64 0] 25) hB))
  obtain ⟨a, cap, rfl, h1, h2, -, -⟩ := hs.form
  unfold maxLen at h2
  clear hs
  by_cases hl : xs.length < 16
  · have HO : Hid (takeW xs = 0 ∧ takeT xs = 0 ∧ takeE xs = 2) := by show _ ∧ _ ∧ _; simp [takeW, takeT, takeE, hl]
    clear HSL
    go_enter Try.func98, Try.ntmps98
    go_wp2_with fail
    refine bodyPost_ret (v := .tuple #[.agg #[.int .i64 0, .int .i64 0], .int .i64 2]) (by simp [results, Try.results98, go_sem]) rfl ⟨by rw [HO.out.1, HO.out.2.1, HO.out.2.2], below_alloc w _ (Nat.le_refl _)⟩
  · by_cases hg : 16 < xs.length
    · have HO : Hid (takeW xs = 0 ∧ takeT xs = 0 ∧ takeE xs = 3) := by show _ ∧ _ ∧ _; simp [takeW, takeT, takeE, hl, hg]
      clear HSL
      go_enter Try.func98, Try.ntmps98
      go_wp2_with fail
      refine bodyPost_ret (v := .tuple #[.agg #[.int .i64 0, .int .i64 0], .int .i64 3]) (by simp [results, Try.results98, go_sem]) rfl ⟨by rw [HO.out.1, HO.out.2.1, HO.out.2.2], below_alloc w _ (Nat.le_refl _)⟩
    · have HO : Hid (takeW xs = backI (beVal ((xs.drop 0).take 8)) ∧ takeT xs = backI (beVal ((xs.drop 8).take 8)) ∧ takeE xs = 0) := by show _ ∧ _ ∧ _; simp [takeW, takeT, takeE, hl, hg]
      obtain ⟨p0, p1⟩ := take_bd xs hx 0 (by omega)
      obtain ⟨q0, q1⟩ := take_bd xs hx 8 (by omega)
      have G1 := Lib.hid (refGet_ok B _ xs hx 0 8 _ HSL.out (by decide) (by decide) (by omega))
      have G2 := Lib.hid (refGet_ok B _ xs hx 8 8 _ HSL.out (by decide) (by decide) (by omega))
      obtain ⟨x, ex⟩ : ∃ x, beVal ((xs.drop 0).take 8) = x := ⟨_, rfl⟩
      obtain ⟨y, ey⟩ : ∃ y, beVal ((xs.drop 8).take 8) = y := ⟨_, rfl⟩
      rw [ex] at p0 p1 HO G1
      rw [ey] at q0 q1 HO G2
      clear ex ey HSL
      go_enter Try.func98, Try.ntmps98
      go_wp2_with fail
      refine G1.out.mono ?_; rintro e w1 ⟨rfl, rfl⟩
      go_wp2_with fail
      refine G2.out.mono ?_; rintro e w1 ⟨rfl, rfl⟩
      go_wp2_with fail
      refine (refBack_any _ _ p0 p1).mono ?_; rintro e w1 ⟨rfl, rfl⟩
      go_wp2_with fail
      refine (refBack_any _ _ q0 q1).mono ?_; rintro e w1 ⟨rfl, rfl⟩
      go_wp2_with fail
      refine bodyPost_ret (v := .tuple #[.agg #[.int .i64 (backI x), .int .i64 (backI y)], .int .i64 0]) (by simp [results, Try.results98, go_sem]) rfl ⟨by rw [HO.out.1, HO.out.2.1, HO.out.2.2], below_alloc w _ (Nat.le_refl _)⟩
end Go.Proofs.Ytmhmlpfkdpjlaaa
