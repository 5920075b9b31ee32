/- Which zones may be: the program's, the reference's. -/
import Derived.Test.YtihkkoldjllifaaZoneE
import Derived.Test.YtihkkoldjllifaaConf
namespace Go.Proofs.Ytihkkoldjllifaa
open Go.RowKit

/-- Where a zone's lists lie. -/
structure ZoneAt (w : World) (z : Zn) (pv pw pl : Option Addr) : Prop where
  nv : NumsAt w pv z.v
  nw : NumsAt w pw z.w
  nl : NumsAt w pl z.l
theorem ZoneAt.keep {w w' : World} {z : Zn} {pv pw pl : Option Addr} (h : ZoneAt w z pv pw pl) {B : Nat} (hb : Below B w w') (hB : w.heap.size ≤ B) : ZoneAt w' z pv pw pl :=
  ⟨h.nv.keep hb hB, h.nw.keep hb hB, h.nl.keep hb hB⟩
theorem nums_one {w : World} {g : Nat} {n : Int} {t : TypeId} (h : w.heap[g]? = some (.cells #[.int .i64 n] t (0, 0))) : NumsAt w (some ⟨g, 0, none⟩) [n] :=
  NumsAt.of_cells h fun j hj => by
    have : j = 0 := by simp at hj; omega
    subst this; rfl

section
variable (z : Zn) (pv pw pl : Option Addr) (cv cw cl : Nat)
set_option maxRecDepth 100000 in
set_option maxHeartbeats 4000000 in
theorem mayZone_any (l0 : z.v.length ≤ 1000) (l1 : z.w.length ≤ 1000) (l2 : z.l.length ≤ 1000) (w : World) (hz : ZoneAt w z pv pw pl) :
    Calls Try.prog 27 #[.agg #[.slice pv z.v.length cv, .slice pw z.w.length cw, .slice pl z.l.length cl, .int .i64 z.e, .int .i64 z.k, .int .i64 z.s]] w fun r w' => r = .returned (.bool (mayZ z)) ∧ Below w.heap.size w w' := by
  have HZ := Lib.hid hz
  clear hz
  go_enter Try.func27, Try.ntmps27
  go_wp2_with fail
  have bB := below_box w (.cells #[.slice pv z.v.length cv, .slice pw z.w.length cw, .slice pl z.l.length cl, .int .i64 z.e, .int .i64 z.k, .int .i64 z.s] 43)
  have hA0 := heap_last w (.cells #[.slice pv z.v.length cv, .slice pw z.w.length cw, .slice pl z.l.length cl, .int .i64 z.e, .int .i64 z.k, .int .i64 z.s] 43)
  have hA1 := heap_prev (.cells #[.int .i64 z.e] 3) hA0
  have hA2 := heap_prev (.cells #[.int .i64 z.k] 3) hA1
  have hA := heap_prev (.cells #[.slice pv z.v.length cv, .slice pw z.w.length cw, .slice pl z.l.length cl, .slice (some ⟨w.heap.size + 1, 0, none⟩) 1 1, .slice (some ⟨w.heap.size + 1 + 1, 0, none⟩) 1 1] 35) hA2
  have hE0 := heap_last (w.alloc (.cells #[.slice pv z.v.length cv, .slice pw z.w.length cw, .slice pl z.l.length cl, .int .i64 z.e, .int .i64 z.k, .int .i64 z.s] 43)) (.cells #[.int .i64 z.e] 3)
  have hE := heap_prev (.cells #[.slice pv z.v.length cv, .slice pw z.w.length cw, .slice pl z.l.length cl, .slice (some ⟨w.heap.size + 1, 0, none⟩) 1 1, .slice (some ⟨w.heap.size + 1 + 1, 0, none⟩) 1 1] 35) (heap_prev (.cells #[.int .i64 z.k] 3) hE0)
  have hK := heap_prev (.cells #[.slice pv z.v.length cv, .slice pw z.w.length cw, .slice pl z.l.length cl, .slice (some ⟨w.heap.size + 1, 0, none⟩) 1 1, .slice (some ⟨w.heap.size + 1 + 1, 0, none⟩) 1 1] 35) (heap_last ((w.alloc (.cells #[.slice pv z.v.length cv, .slice pw z.w.length cw, .slice pl z.l.length cl, .int .i64 z.e, .int .i64 z.k, .int .i64 z.s] 43)).alloc (.cells #[.int .i64 z.e] 3)) (.cells #[.int .i64 z.k] 3))
  have hS := heap_last (((w.alloc (.cells #[.slice pv z.v.length cv, .slice pw z.w.length cw, .slice pl z.l.length cl, .int .i64 z.e, .int .i64 z.k, .int .i64 z.s] 43)).alloc (.cells #[.int .i64 z.e] 3)).alloc (.cells #[.int .i64 z.k] 3)) (.cells #[.slice pv z.v.length cv, .slice pw z.w.length cw, .slice pl z.l.length cl, .slice (some ⟨w.heap.size + 1, 0, none⟩) 1 1, .slice (some ⟨w.heap.size + 1 + 1, 0, none⟩) 1 1] 35)
  have hB : Below w.heap.size w ((((w.alloc (.cells #[.slice pv z.v.length cv, .slice pw z.w.length cw, .slice pl z.l.length cl, .int .i64 z.e, .int .i64 z.k, .int .i64 z.s] 43)).alloc (.cells #[.int .i64 z.e] 3)).alloc (.cells #[.int .i64 z.k] 3)).alloc (.cells #[.slice pv z.v.length cv, .slice pw z.w.length cw, .slice pl z.l.length cl, .slice (some ⟨w.heap.size + 1, 0, none⟩) 1 1, .slice (some ⟨w.heap.size + 1 + 1, 0, none⟩) 1 1] 35)) := ((((Below.refl _ _).alloc (Nat.le_refl _) _).alloc (by simp) _).alloc (by simp; omega) _).alloc (by simp; omega) _
  simp only [World.size_alloc] at hE hK hS
  obtain ⟨G, hG⟩ : ∃ G, w.heap.size + 1 + 1 + 1 = G := ⟨_, rfl⟩
  obtain ⟨W, hW⟩ : ∃ W, (((w.alloc (.cells #[.slice pv z.v.length cv, .slice pw z.w.length cw, .slice pl z.l.length cl, .int .i64 z.e, .int .i64 z.k, .int .i64 z.s] 43)).alloc (.cells #[.int .i64 z.e] 3)).alloc (.cells #[.int .i64 z.k] 3)).alloc (.cells #[.slice pv z.v.length cv, .slice pw z.w.length cw, .slice pl z.l.length cl, .slice (some ⟨w.heap.size + 1, 0, none⟩) 1 1, .slice (some ⟨w.heap.size + 1 + 1, 0, none⟩) 1 1] 35) = W := ⟨_, rfl⟩
  rw [hG] at hS ⊢
  rw [hW] at hA hE hK hS hB ⊢
  have HZ1 := HZ.out.keep hB (Nat.le_refl _)
  have HS : Hid (∀ q, q < 5 → ∃ p c, W.cell? ⟨G, q, none⟩ = some (.slice p (z.lists q).length c) ∧ NumsAt W p (z.lists q)) := fun q hq => by
    have : q = 0 ∨ q = 1 ∨ q = 2 ∨ q = 3 ∨ q = 4 := by omega
    rcases this with rfl | rfl | rfl | rfl | rfl
    · exact ⟨_, _, block_cells hS 0, HZ1.nv⟩
    · exact ⟨_, _, block_cells hS 1, HZ1.nw⟩
    · exact ⟨_, _, block_cells hS 2, HZ1.nl⟩
    · exact ⟨_, _, block_cells hS 3, nums_one hE⟩
    · exact ⟨_, _, block_cells hS 4, nums_one hK⟩
  have HLN : Hid (∀ q, q < 5 → (z.lists q).length ≤ 1000) := fun q hq => by
    have : q = 0 ∨ q = 1 ∨ q = 2 ∨ q = 3 ∨ q = 4 := by omega
    rcases this with rfl | rfl | rfl | rfl | rfl
    · exact l0
    · exact l1
    · exact l2
    · exact (by show 1 ≤ 1000; decide)
    · exact (by show 1 ≤ 1000; decide)
  have HB := Lib.hid hB
  have kA := block_cells hA
  clear bB hA0 hA1 hA2 hA hE0 hE hK hS hB hG hW HZ1 HZ
  go_loop [21] (fun i => ∃ (q : Nat), q ≤ 5 ∧ i = .int .i64 q ∧ Hid (∀ j, j < q → listOk (z.lists j) = true)) (fun i => 5 - (intOf i).toNat)
  case atStart => exact ⟨0, by omega, rfl, fun j h => absurd h (by omega)⟩
  case round =>
    obtain ⟨q, hq5, rfl, hr⟩ := hrel
    by_cases hq : q < 5
    · obtain ⟨p, c, hcell, hn⟩ := HS.out q hq
      obtain ⟨L, hL⟩ : ∃ L, z.lists q = L := ⟨_, rfl⟩
      rw [hL] at hcell hn
      have HL := Lib.hid hL
      have HN := Lib.hid hn
      have hlen : L.length ≤ 1000 := by rw [← hL]; exact HLN.out q hq
      clear hL hn
      by_cases hlong : 4 < L.length
      · have HX : Hid (mayZ z = false) := mayZ_no (q := q) (by omega) (by rw [HL.out]; exact listOk_long hlong)
        go_wp2_with fail
        go_ret
        exact ⟨ret_bool HX.out.symm, HB.out⟩
      · have hd1 : decide ((q : Int) < 5) = true := by simp; omega
        have hd2 : decide (4 < (L.length : Int)) = false := by simp; omega
        go_wp2_with fail
        go_loop [30] (fun i => ∃ (k : Nat), k ≤ L.length ∧ i = .int .i64 k ∧ Hid (∀ j, (hj : j < L.length) → j < k → numOk L[j] = true)) (fun i => L.length - (intOf i).toNat)
        case atStart => exact ⟨0, by omega, rfl, fun j _ h => absurd h (by omega)⟩
        case round =>
          obtain ⟨k, hk, rfl, ho⟩ := hrel
          by_cases hkt : k < L.length
          · obtain ⟨g, o, rfl, hg, hc⟩ := HN.out k hkt
            obtain ⟨y, hy⟩ : ∃ y, L[k] = y := ⟨_, rfl⟩
            rw [hy] at hc
            have HY := Lib.hid hy
            clear hy
            by_cases h1 : y < 0
            · have HX : Hid (mayZ z = false) := mayZ_no (q := q) (by omega) (by rw [HL.out]; exact listOk_at hkt (by rw [HY.out]; exact numOk_no (.inl h1)))
              go_wp2_with fail
              go_ret
              exact ⟨ret_bool HX.out.symm, HB.out⟩
            · by_cases h2 : 9 < y
              · have HX : Hid (mayZ z = false) := mayZ_no (q := q) (by omega) (by rw [HL.out]; exact listOk_at hkt (by rw [HY.out]; exact numOk_no (.inr h2)))
                go_wp2_with fail
                go_ret
                exact ⟨ret_bool HX.out.symm, HB.out⟩
              · have HO : Hid (∀ j, (hj : j < L.length) → j < k + 1 → numOk L[j] = true) := fun j hj hj1 => by
                  by_cases e : j = k
                  · subst e; rw [HY.out]; exact numOk_yes h1 h2
                  · exact ho.out j hj (by omega)
                clear ho
                go_wp2_with fail
                go_round
                case rel => exact ⟨k + 1, by omega, by go_num, HO⟩
                case measure => simp [intOf]; omega
          · obtain rfl : k = L.length := by omega
            have HO : Hid (∀ j, j < q + 1 → listOk (z.lists j) = true) := fun j hj => by
              by_cases e : j = q
              · subst e; rw [HL.out]; exact listOk_all (by omega) (fun j hj => ho.out j hj hj)
              · exact hr.out j (by omega)
            clear hr ho
            go_wp2_with fail
            go_round
            case rel => exact ⟨q + 1, by omega, by go_num, HO⟩
            case measure => simp [intOf]; omega
    · obtain rfl : q = 5 := by omega
      have HX := Lib.hid (mayZ_yes hr.out)
      clear hr
      by_cases s0 : 0 ≤ z.s
      · by_cases s2 : z.s ≤ 2
        · go_wp2_with fail
          go_ret
          exact ⟨ret_bool (by rw [HX.out, decide_eq_true s0, decide_eq_true s2]; rfl), HB.out⟩
        · have hd := decide_eq_false s2
          go_wp2_with fail
          go_ret
          exact ⟨ret_bool (by rw [HX.out, decide_eq_true s0, hd]; rfl), HB.out⟩
      · have hd := decide_eq_false s0
        go_wp2_with fail
        go_ret
        exact ⟨ret_bool (by rw [HX.out, hd]; rfl), HB.out⟩

set_option maxRecDepth 100000 in
set_option maxHeartbeats 4000000 in
theorem refMayZone_any (l0 : z.v.length ≤ 1000) (l1 : z.w.length ≤ 1000) (l2 : z.l.length ≤ 1000) (w : World) (hz : ZoneAt w z pv pw pl) :
    Calls Try.prog 28 #[.agg #[.slice pv z.v.length cv, .slice pw z.w.length cw, .slice pl z.l.length cl, .int .i64 z.e, .int .i64 z.k, .int .i64 z.s]] w fun r w' => r = .returned (.bool (mayZ z)) ∧ Below w.heap.size w w' := by
  have HZ := Lib.hid hz
  clear hz
  go_enter Try.func28, Try.ntmps28
  go_wp2_with fail
  have hA0 := heap_last w (.cells #[.slice pv z.v.length cv, .slice pw z.w.length cw, .slice pl z.l.length cl, .int .i64 z.e, .int .i64 z.k, .int .i64 z.s] 43)
  have hA := heap_prev (.cells #[.slice pv z.v.length cv, .slice pw z.w.length cw, .slice pl z.l.length cl] 35) hA0
  have hS := heap_last (w.alloc (.cells #[.slice pv z.v.length cv, .slice pw z.w.length cw, .slice pl z.l.length cl, .int .i64 z.e, .int .i64 z.k, .int .i64 z.s] 43)) (.cells #[.slice pv z.v.length cv, .slice pw z.w.length cw, .slice pl z.l.length cl] 35)
  have hB : Below w.heap.size w ((w.alloc (.cells #[.slice pv z.v.length cv, .slice pw z.w.length cw, .slice pl z.l.length cl, .int .i64 z.e, .int .i64 z.k, .int .i64 z.s] 43)).alloc (.cells #[.slice pv z.v.length cv, .slice pw z.w.length cw, .slice pl z.l.length cl] 35)) := ((Below.refl _ _).alloc (Nat.le_refl _) _).alloc (by simp) _
  simp only [World.size_alloc] at hS
  obtain ⟨G, hG⟩ : ∃ G, w.heap.size + 1 = G := ⟨_, rfl⟩
  obtain ⟨W, hW⟩ : ∃ W, (w.alloc (.cells #[.slice pv z.v.length cv, .slice pw z.w.length cw, .slice pl z.l.length cl, .int .i64 z.e, .int .i64 z.k, .int .i64 z.s] 43)).alloc (.cells #[.slice pv z.v.length cv, .slice pw z.w.length cw, .slice pl z.l.length cl] 35) = W := ⟨_, rfl⟩
  rw [hG] at hS ⊢
  rw [hW] at hA hS hB ⊢
  have HZ1 := HZ.out.keep hB (Nat.le_refl _)
  have HS : Hid (∀ q, q < 3 → ∃ p c, W.cell? ⟨G, q, none⟩ = some (.slice p (z.lists q).length c) ∧ NumsAt W p (z.lists q)) := fun q hq => by
    have : q = 0 ∨ q = 1 ∨ q = 2 := by omega
    rcases this with rfl | rfl | rfl
    · exact ⟨_, _, block_cells hS 0, HZ1.nv⟩
    · exact ⟨_, _, block_cells hS 1, HZ1.nw⟩
    · exact ⟨_, _, block_cells hS 2, HZ1.nl⟩
  have HLN : Hid (∀ q, q < 3 → (z.lists q).length ≤ 1000) := fun q hq => by
    have : q = 0 ∨ q = 1 ∨ q = 2 := by omega
    rcases this with rfl | rfl | rfl
    · exact l0
    · exact l1
    · exact l2
  have HB := Lib.hid hB
  have kA := block_cells hA
  clear hA0 hA hS hB hG hW HZ1 HZ
  go_loop [4] (fun i => ∃ (q : Nat), q ≤ 3 ∧ i = .int .i64 q ∧ Hid (∀ j, j < q → listOk (z.lists j) = true)) (fun i => 3 - (intOf i).toNat)
  case atStart => exact ⟨0, by omega, rfl, fun j h => absurd h (by omega)⟩
  case round =>
    obtain ⟨q, hq5, rfl, hr⟩ := hrel
    by_cases hq : q < 3
    · obtain ⟨p, c, hcell, hn⟩ := HS.out q hq
      obtain ⟨L, hL⟩ : ∃ L, z.lists q = L := ⟨_, rfl⟩
      rw [hL] at hcell hn
      have HL := Lib.hid hL
      have HN := Lib.hid hn
      have hlen : L.length ≤ 1000 := by rw [← hL]; exact HLN.out q hq
      clear hL hn
      by_cases hlong : 4 < L.length
      · have HX : Hid (mayZ z = false) := mayZ_no (q := q) (by omega) (by rw [HL.out]; exact listOk_long hlong)
        go_wp2_with fail
        go_ret
        exact ⟨ret_bool HX.out.symm, HB.out⟩
      · have hd1 : decide ((q : Int) < 3) = true := by simp; omega
        have hd2 : decide (4 < (L.length : Int)) = false := by simp; omega
        go_wp2_with fail
        go_loop [5] (fun i => ∃ (k : Nat), k ≤ L.length ∧ i = .int .i64 k ∧ Hid (∀ j, (hj : j < L.length) → j < k → numOk L[j] = true)) (fun i => L.length - (intOf i).toNat)
        case atStart => exact ⟨0, by omega, rfl, fun j _ h => absurd h (by omega)⟩
        case round =>
          obtain ⟨k, hk, rfl, ho⟩ := hrel
          by_cases hkt : k < L.length
          · obtain ⟨g, o, rfl, hg, hc⟩ := HN.out k hkt
            obtain ⟨y, hy⟩ : ∃ y, L[k] = y := ⟨_, rfl⟩
            rw [hy] at hc
            have HY := Lib.hid hy
            clear hy
            by_cases h1 : y < 0
            · have HX : Hid (mayZ z = false) := mayZ_no (q := q) (by omega) (by rw [HL.out]; exact listOk_at hkt (by rw [HY.out]; exact numOk_no (.inl h1)))
              go_wp2_with fail
              go_ret
              exact ⟨ret_bool HX.out.symm, HB.out⟩
            · by_cases h2 : 9 < y
              · have HX : Hid (mayZ z = false) := mayZ_no (q := q) (by omega) (by rw [HL.out]; exact listOk_at hkt (by rw [HY.out]; exact numOk_no (.inr h2)))
                go_wp2_with fail
                go_ret
                exact ⟨ret_bool HX.out.symm, HB.out⟩
              · have HO : Hid (∀ j, (hj : j < L.length) → j < k + 1 → numOk L[j] = true) := fun j hj hj1 => by
                  by_cases e : j = k
                  · subst e; rw [HY.out]; exact numOk_yes h1 h2
                  · exact ho.out j hj (by omega)
                clear ho
                go_wp2_with fail
                go_round
                case rel => exact ⟨k + 1, by omega, by go_num, HO⟩
                case measure => simp [intOf]; omega
          · obtain rfl : k = L.length := by omega
            have HO : Hid (∀ j, j < q + 1 → listOk (z.lists j) = true) := fun j hj => by
              by_cases e : j = q
              · subst e; rw [HL.out]; exact listOk_all (by omega) (fun j hj => ho.out j hj hj)
              · exact hr.out j (by omega)
            clear hr ho
            go_wp2_with fail
            go_round
            case rel => exact ⟨q + 1, by omega, by go_num, HO⟩
            case measure => simp [intOf]; omega
    · obtain rfl : q = 3 := by omega
      have HX := Lib.hid (mayZ_three hr.out)
      clear hr
      by_cases e0 : z.e < 0
      · have HN := Lib.hid (numOk_no (.inl e0))
        have hd : decide (0 ≤ z.e) = false := by simp; omega
        go_wp2_with fail
        go_ret
        exact ⟨ret_bool (by rw [HX.out, HN.out]; rfl), HB.out⟩
      · by_cases e9 : 9 < z.e
        · have HN := Lib.hid (numOk_no (.inr e9))
          have hd : decide (z.e ≤ 9) = false := by simp; omega
          have hd' : decide (0 ≤ z.e) = true := by simp; omega
          go_wp2_with fail
          go_ret
          exact ⟨ret_bool (by rw [HX.out, HN.out]; rfl), HB.out⟩
        · have HE := Lib.hid (numOk_yes e0 e9)
          have he1 : decide (0 ≤ z.e) = true := by simp; omega
          have he2 : decide (z.e ≤ 9) = true := by simp; omega
          by_cases k0 : z.k < 0
          · have HN := Lib.hid (numOk_no (.inl k0))
            have hd : decide (0 ≤ z.k) = false := by simp; omega
            go_wp2_with fail
            go_ret
            exact ⟨ret_bool (by rw [HX.out, HE.out, HN.out]; rfl), HB.out⟩
          · by_cases k9 : 9 < z.k
            · have HN := Lib.hid (numOk_no (.inr k9))
              have hd : decide (z.k ≤ 9) = false := by simp; omega
              have hd' : decide (0 ≤ z.k) = true := by simp; omega
              go_wp2_with fail
              go_ret
              exact ⟨ret_bool (by rw [HX.out, HE.out, HN.out]; rfl), HB.out⟩
            · have HK := Lib.hid (numOk_yes k0 k9)
              have hk1 : decide (0 ≤ z.k) = true := by simp; omega
              have hk2 : decide (z.k ≤ 9) = true := by simp; omega
              by_cases s0 : 0 ≤ z.s
              · by_cases s2 : z.s ≤ 2
                · go_wp2_with fail
                  go_ret
                  exact ⟨ret_bool (by rw [HX.out, HE.out, HK.out, decide_eq_true s0, decide_eq_true s2]; rfl), HB.out⟩
                · have hd := decide_eq_false s2
                  go_wp2_with fail
                  go_ret
                  exact ⟨ret_bool (by rw [HX.out, HE.out, HK.out, decide_eq_true s0, hd]; rfl), HB.out⟩
              · have hd := decide_eq_false s0
                go_wp2_with fail
                go_ret
                exact ⟨ret_bool (by rw [HX.out, HE.out, HK.out, hd]; rfl), HB.out⟩
end
end Go.Proofs.Ytihkkoldjllifaa
