import Derived.Test.YtmhmlpfkdpjlaaaRefBits
import Derived.Test.YtmhmlpfkdpjlaaaSlices
import Derived.Test.YtmhmlpfkdpjlaaaBits
import Derived.Deep.Onto
import Derived.Deep.RegionHeld3
import Derived.Deep.DeepCutAuto
import Derived.Deep.AppendLies
/- The contract of the reference's Get. -/
namespace Go.Proofs.Ytmhmlpfkdpjlaaa
open Go.RowKit

set_option maxHeartbeats 1000000 in
theorem refGet_arg (v : Value) (p n : Int) (w : World) (h : n < 1 ∨ 8 < n ∨ p < 0) :
    Calls Try.prog 78 #[v, .int .i64 p, .int .i64 n] w fun e w' => e = .returned (.tuple #[.int .u64 0, .int .i64 1]) ∧ w = w' := by
  by_cases h1 : n < 1
  · clear h
    go_enter Try.func78, Try.ntmps78
    go_wp2
    go_ret2
    exact ⟨rfl, rfl⟩
  · by_cases h2 : 8 < n
    · clear h
      go_enter Try.func78, Try.ntmps78
      go_wp2
      go_ret2
      exact ⟨rfl, rfl⟩
    · have h3 : p < 0 := by omega
      clear h
      go_enter Try.func78, Try.ntmps78
      go_wp2
      go_ret2
      exact ⟨rfl, rfl⟩

set_option maxHeartbeats 1000000 in
theorem refGet_short (B : Nat) (v : Value) (xs : List Int) (p n : Int) (w : World) (hs : Sl B w v 1 xs.length (byt xs)) (hn : 1 ≤ n) (hn' : n ≤ 8) (hp : 0 ≤ p) (h : (xs.length : Int) - n < p) :
    Calls Try.prog 78 #[v, .int .i64 p, .int .i64 n] w fun e w' => e = .returned (.tuple #[.int .u64 0, .int .i64 2]) ∧ w = w' := by
  obtain ⟨a, cap, rfl, h1, h2, -, -⟩ := hs.form
  clear hs
  unfold maxLen at h2
  by_cases hq : (xs.length : Int) < p
  · go_enter Try.func78, Try.ntmps78
    go_wp2
    go_ret2
    exact ⟨rfl, rfl⟩
  · have hz : (xs.length : Int) - p < n := by omega
    go_enter Try.func78, Try.ntmps78
    go_wp2
    go_ret2
    exact ⟨rfl, rfl⟩

set_option maxHeartbeats 1000000 in
theorem refGet_ok (B : Nat) (v : Value) (xs : List Int) (hx : ∀ x ∈ xs, 0 ≤ x ∧ x ≤ 255) (p n : Nat) (w : World) (hs : Sl B w v 1 xs.length (byt xs)) (hn : 1 ≤ n) (hn' : n ≤ 8) (h : p + n ≤ xs.length) :
    Calls Try.prog 78 #[v, .int .i64 p, .int .i64 n] w fun e w' => e = .returned (.tuple #[.int .u64 (beVal ((xs.drop p).take n)), .int .i64 0]) ∧ w = w' := by
  have HX := Lib.hid (fun k => fun x (hm : x ∈ ((xs.drop p).take n).take k) => hx x (List.mem_of_mem_drop (List.mem_of_mem_take (List.mem_of_mem_take hm))))
  obtain ⟨a, cap, rfl, h1, h2, -, h3⟩ := hs.form
  obtain ⟨g, o, rfl, hg, -⟩ := h3 0 (by omega)
  have hcell : ∀ j, j < xs.length → w.cell? ⟨g, o + j, none⟩ = some (.int .u8 (xs.getD j 0)) := fun j hj => by
    obtain ⟨g', o', e, _, hc⟩ := h3 j hj
    simp only [Option.some.injEq, Addr.mk.injEq, and_true] at e
    obtain ⟨rfl, rfl⟩ := e
    rw [hc]; simp [byt, hj, List.getD]
  have HC := Lib.hid hcell
  clear hs h3 hcell hx
  unfold maxLen at h2
  have hlen : ((xs.drop p).take n).length = n := by rw [List.length_take, List.length_drop]; omega
  have HLEN := Lib.hid hlen
  clear hlen
  go_enter Try.func78, Try.ntmps78
  go_wp2
  go_loop [8, 9] (fun y i => ∃ (k : Nat) (s : Int), k ≤ n ∧ i = .int .i64 k ∧ y = .int .u64 s ∧ Hid (s = beVal (((xs.drop p).take n).take k))) (fun _ i => n - (intOf i).toNat)
  case atStart => exact ⟨0, 0, by omega, rfl, rfl, rfl⟩
  case round =>
    obtain ⟨k, s, hk, rfl, rfl, hs⟩ := hrel
    by_cases hlt : k < n
    · have hb : 0 ≤ s ∧ s ≤ 72057594037927935 := by rw [hs.out]; exact beVal_56 _ (by rw [List.length_take]; omega) (HX.out k)
      obtain ⟨hb0, hb1⟩ := hb
      obtain ⟨c, hc0, hc1, hcell, HS⟩ : ∃ c : Int, 0 ≤ c ∧ c ≤ 255 ∧ w.cell? ⟨g, o + (p + k), none⟩ = some (.int .u8 c) ∧ Hid (beVal (((xs.drop p).take n).take (k + 1)) = s * 256 + c) := by
        have e : (((xs.drop p).take n))[k]'(by rw [HLEN.out]; exact hlt) = xs[p + k]'(by omega) := by rw [List.getElem_take, List.getElem_drop]
        have e2 : ((xs.drop p).take n).take (k + 1) = ((xs.drop p).take n).take k ++ [xs[p + k]'(by omega)] := by
          rw [List.take_add_one, List.getElem?_eq_getElem (by rw [HLEN.out]; exact hlt), e]; rfl
        have hm := HX.out (k + 1) (xs[p + k]'(by omega)) (by rw [e2]; simp)
        refine ⟨xs[p + k]'(by omega), hm.1, hm.2, ?_, ?_⟩
        · rw [HC.out (p + k) (by omega)]; simp [List.getD, List.getElem?_eq_getElem (show p + k < xs.length by omega)]
        · show _ = _
          rw [e2, beVal_snoc, hs.out]
      go_wp2
      go_round
      case rel => exact ⟨k + 1, s * 256 + c, by omega, by go_num, rfl, HS.out.symm⟩
      case measure => simp [intOf]; omega
    · obtain rfl : k = n := by omega
      go_wp2
      go_ret2
      refine ⟨congrArg (fun z => Ending.returned (Value.tuple #[Value.int .u64 z, Value.int .i64 0])) ?_, rfl⟩
      rw [hs.out, List.take_of_length_le (Nat.le_of_eq HLEN.out)]
end Go.Proofs.Ytmhmlpfkdpjlaaa
/- Contracts of stamps as bytes: how they are laid, and which bytes are a stamp; package stamp and its reference. -/
namespace Go.Proofs.Ytmhmlpfkdpjlaaa
open Go.RowKit

/-- The bytes of a stamp. -/
def stampB (a b : Int) : List Int := bePre (orderI a) 8 8 ++ bePre (orderI b) 8 8
theorem stampB_len (a b : Int) : (stampB a b).length = 16 := by simp [stampB, bePre_len]
def takeE (xs : List Int) : Int := if xs.length < 16 then 2 else if 16 < xs.length then 3 else 0
def takeW (xs : List Int) : Int := if takeE xs = 0 then backI (beVal ((xs.drop 0).take 8)) else 0
def takeT (xs : List Int) : Int := if takeE xs = 0 then backI (beVal ((xs.drop 8).take 8)) else 0
theorem orderI_bd (a : Int) (h0 : -9223372036854775808 ≤ a) (h1 : a ≤ 9223372036854775807) : 0 ≤ orderI a ∧ orderI a < 2 ^ (8 * (8 : Int)).toNat := by
  have : ((2 : Int) ^ (8 * (8 : Int)).toNat) = 18446744073709551616 := by decide
  rw [this]; unfold orderI; omega
theorem nil_sl (w : World) : Sl 0 w (.slice none 0 0) 1 ([] : List Int).length (byt []) := ⟨rfl, .inl ⟨rfl, rfl⟩⟩

/-- Sixteen bytes in a row of the call's own. -/
def Made (w : World) (ys : List Int) (e : Ending) (w' : World) : Prop := ∃ v', e = .returned v' ∧ w'.ownsRow w.heap.size 5 1 v' ys.length (byt ys) ∧ Below w.heap.size w w'

set_option maxHeartbeats 2000000 in
theorem bytes_any (a b : Int) (w : World) (a0 : -9223372036854775808 ≤ a) (a1 : a ≤ 9223372036854775807) (b0 : -9223372036854775808 ≤ b) (b1 : b ≤ 9223372036854775807) :
    Calls Try.prog 81 #[.agg #[.int .i64 a, .int .i64 b]] w (Made w (stampB a b)) := by
  obtain ⟨oa0, oa1⟩ := orderI_bd a a0 a1
  obtain ⟨ob0, ob1⟩ := orderI_bd b b0 b1
  have oa2 : orderI a ≤ 18446744073709551615 := by have : ((2 : Int) ^ (8 * (8 : Int)).toNat) = 18446744073709551616 := by decide
                                                   omega
  have ob2 : orderI b ≤ 18446744073709551615 := by have : ((2 : Int) ^ (8 * (8 : Int)).toNat) = 18446744073709551616 := by decide
                                                   omega
  have PA := Lib.hid (fun (v : World) => put_ok 0 _ [] (orderI a) 8 v (nil_sl v) (Nat.zero_le _) (by decide) oa0 oa2 (by decide) (by decide) oa1)
  have PB := Lib.hid (fun (v : World) (u : Value) (h : Sl v.heap.size v u 1 (bePre (orderI a) 8 8).length (byt (bePre (orderI a) 8 8))) => put_ok v.heap.size u (bePre (orderI a) 8 8) (orderI b) 8 v h (Nat.le_refl _) (by rw [bePre_len]; decide) ob0 ob2 (by decide) (by decide) ob1)
  have HA := heap_last w (.cells #[.int .i64 a, .int .i64 b] 25)
  clear oa1 ob1
  go_enter Try.func81, Try.ntmps81
  go_wp2_with fail
  refine (order_any _ _ a0 a1).mono ?_; rintro e w' ⟨rfl, rfl⟩
  go_wp2_with fail
  refine (PA.out _).mono ?_; rintro e w1 ⟨v1, rfl, hown, hb⟩
  have hown' : w1.ownsRow (w.heap.size + 1) 5 1 v1 (bePre (orderI a) 8 8).length (byt (bePre (orderI a) 8 8)) := by simpa [bePre_len] using hown
  have HSL := Lib.hid (Sl.of_own hown')
  have hb0 : Below (w.heap.size + 1) (w.alloc (.cells #[.int .i64 a, .int .i64 b] 25)) w1 := by simpa using hb
  replace HA := below_block hb0 (by omega) HA
  have B1 := Lib.hid ((below_alloc w (.cells #[.int .i64 a, .int .i64 b] 25) (Nat.le_refl _)).trans (hb0.mono (by omega)))
  have kA := block_cells HA
  clear hown hown' hb hb0 PA
  go_wp2_with fail
  refine (order_any _ _ b0 b1).mono ?_; rintro e w' ⟨rfl, rfl⟩
  go_wp2_with fail
  refine (PB.out _ _ HSL.out).mono ?_; rintro e w2 ⟨v2, rfl, hown, hb⟩
  have HO : Hid (w2.ownsRow w.heap.size 5 1 v2 (stampB a b).length (byt (stampB a b))) := by
    show World.ownsRow _ _ _ _ _ _ _
    have h2 := hown.mono B1.out.size
    rw [bePre_len] at h2
    rw [stampB_len]; exact h2
  clear hown
  go_wp2_with fail
  go_ret
  exact ⟨_, rfl, HO.out, B1.out.trans (hb.mono B1.out.size)⟩

theorem own_below {B : Nat} {w w' : World} {base : Nat} {e : TypeId} {size : Nat} {v : Value} {n : Nat} {xs : List Value} (h : w.ownsRow base e size v n xs) (hb : Below B w w') (hB : w.heap.size ≤ B) : w'.ownsRow base e size v n xs :=
  h.kept (row := none) ⟨hb.os, hb.tape, hb.output, hb.size, fun k hk _ => hb.block k (by omega)⟩ (by cases v.ownBlock <;> simp)
theorem own_news {w : World} {base : Nat} {e : TypeId} {g n cap : Nat} {xs : List Value} (h : w.ownsRow base e 1 (.slice (some ⟨g, 0, none⟩) n cap) n xs) : ∀ j u, xs[j]? = some u → w.cell? ((⟨g, 0, none⟩ : Addr).add j) = some u := fun j u hu => by
  have hj : j < n * 1 := by rw [← h.1]; exact (List.getElem?_eq_some_iff.1 hu).1
  rw [Go.WideShapes.add_plain, Nat.zero_add, h.cellAt j hj]; exact hu
/-- Eight bytes in a new row. -/
def Eight (w : World) (ys : List Int) (e : Ending) (w' : World) : Prop := ∃ g cap, e = .returned (.slice (some ⟨g, 0, none⟩) 8 cap) ∧ w'.ownsRow w.heap.size 5 1 (.slice (some ⟨g, 0, none⟩) 8 cap) 8 (byt ys) ∧ Below w.heap.size w w' ∧ w.heap.size ≤ g ∧ g < w'.heap.size
set_option maxHeartbeats 1000000 in
theorem eight_any (x : Int) (w : World) (h0 : 0 ≤ x) (h1 : x ≤ 18446744073709551615) : Calls Try.prog 104 #[.int .u64 x] w (Eight w (bePre x 8 8)) := by
  have hlt : x < 2 ^ (8 * 8) := by
    have : ((2 : Int) ^ (8 * 8)) = 18446744073709551616 := by decide
    omega
  have HL := Lib.hid hlt
  have P := Lib.hid (fun (v : World) => refPut_any 0 _ [] x 8 v (nil_sl v) (Nat.zero_le _) (by decide) h0 h1 (by decide) (by decide))
  clear hlt
  go_enter Try.func104, Try.ntmps104
  go_wp2_with fail
  refine (P.out _).mono ?_; rintro e w1 ⟨h, -, hb⟩
  obtain ⟨v, rfl, hown⟩ := h HL.out
  rw [List.nil_append, bePre_len] at hown
  have hlt := hown.lt
  rcases hown.2 with ⟨-, h8⟩ | ⟨g, cap, cur, rfl, hg, hr, -⟩
  · exact absurd h8 (by decide)
  · have HO := Lib.hid hown
    have hgl := (Array.getElem?_eq_some_iff.1 hr).1
    clear hr hown h hlt
    go_wp2_with fail
    go_ret
    exact ⟨g, cap, rfl, HO.out, hb, hg, hgl⟩

set_option maxRecDepth 100000 in
set_option maxHeartbeats 4000000 in
theorem refBytes_any (a b : Int) (w : World) (a0 : -9223372036854775808 ≤ a) (a1 : a ≤ 9223372036854775807) (b0 : -9223372036854775808 ≤ b) (b1 : b ≤ 9223372036854775807) :
    Calls Try.prog 87 #[.agg #[.int .i64 a, .int .i64 b]] w (Made w (stampB a b)) := by
  obtain ⟨i0, hi, hz0, hz1, hz2⟩ := info_parts Try.infoU8
  have oa : 0 ≤ orderI a ∧ orderI a ≤ 18446744073709551615 := by unfold orderI; omega
  have ob : 0 ≤ orderI b ∧ orderI b ≤ 18446744073709551615 := by unfold orderI; omega
  obtain ⟨oa0, oa1⟩ := oa
  obtain ⟨ob0, ob1⟩ := ob
  go_enter Try.func87, Try.ntmps87
  go_wp2_with fail
  have HA := heap_last w (.cells #[.int .i64 a, .int .i64 b] 25)
  have B0 := below_alloc w (.cells #[.int .i64 a, .int .i64 b] 25) (Nat.le_refl _)
  have hsz : (w.alloc (.cells #[.int .i64 a, .int .i64 b] 25)).heap.size = w.heap.size + 1 := by simp
  obtain ⟨W, hW⟩ : ∃ W, w.alloc (.cells #[.int .i64 a, .int .i64 b] 25) = W := ⟨_, rfl⟩
  rw [hW] at HA B0 hsz ⊢
  clear hW
  have h0 : Below W.heap.size W W.drew := (Below.refl _ _).drew
  have HS : Hid (∀ w', Below W.heap.size W w' → Below W.heap.size W w' ∧ (∀ j, w'.cell? ⟨w.heap.size, j, none⟩ = #[Value.int .i64 a, .int .i64 b][j]?)) := fun w' h => ⟨h, block_cells (below_block h (by omega) HA)⟩
  have HB0 := Lib.hid (And.intro B0 hsz)
  clear HA B0 hsz
  go_cut [2] (fun v wx => Made w (stampB a b) (.returned v) wx)
  case first =>
    go_region_held3 (fun w' => Below W.heap.size W w' ∧ (∀ j, w'.cell? ⟨w.heap.size, j, none⟩ = #[Value.int .i64 a, .int .i64 b][j]?)) ((refine HS.out _ ?_; first | exact h0 | assumption | exact Below.trans (by assumption) (by assumption)))
      (first
        | (go_at_call_of 105 (Value.int .i64 a); refine (refOrder_any _ _ a0 a1).mono ?_; rintro e w' ⟨rfl, rfl⟩)
        | (go_at_call_of 105 (Value.int .i64 b); refine (refOrder_any _ _ b0 b1).mono ?_; rintro e w' ⟨rfl, rfl⟩)
        | (go_at_call_of 104 (Value.int .u64 (orderI a)); refine (eight_any _ _ oa0 oa1).mono ?_; rintro e w1 ⟨g1, c1, rfl, hX, hbX, hgX, hgX'⟩; have hkX := (h0.trans (hbX.mono (by simp))))
        | (go_at_call_of 104 (Value.int .u64 (orderI b)); refine (eight_any _ _ ob0 ob1).mono ?_; rintro e w2 ⟨g2, c2, rfl, hY, hbY, hgY, hgY'⟩; have hkY := (hkX.trans (hbY.mono hkX.size)); have hX2 := own_below hX hbY (Nat.le_refl _); have nY := own_news hY)
        | (refine step_append_lies _ (by rfl) _ _ _ (by rfl) W.heap.size 5 i0 (.int .u8 0) 1 1 Try.underlying46 hi hz0 hz1 hz2 rfl (by decide) _ 8 (byt (bePre (orderI a) 8 8)) (by rfl) hX2 ⟨g2, 0, none⟩ 8 c2 (byt (bePre (orderI b) 8 8)) (by rfl) (by rw [byt_len, bePre_len]) nY (byt_one _) (by decide) (by unfold maxLen; omega) (by omega) hkY.size _ rfl ?_; intro g3 c3 w3 hZ hgr hor hlt3; have hkZ : Below W.heap.size W w3 := hkY.grown hgr hkY.size (fun k hk => by simp [Value.ownBlock] at hk; subst hk; exact hgX)))
    all_goals
      go_wp2_with fail
      go_meet
      refine ⟨_, rfl, ?_, HB0.out.1.trans (hkZ.mono (by have := HB0.out.2; omega))⟩
      rw [byt_app] at hZ
      rw [stampB_len]
      exact hZ.mono (by have := HB0.out.2; omega)
  case rest =>
    go_wp2_with fail
    go_ret
    obtain ⟨v', e, h1, h2⟩ := hcut
    exact ⟨v', e, h1, h2⟩
end Go.Proofs.Ytmhmlpfkdpjlaaa
