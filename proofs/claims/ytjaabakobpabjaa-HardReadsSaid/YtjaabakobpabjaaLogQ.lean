import Derived.Test.YtjaabakobpabjaaOpenLog
import Derived.Deep.DrawnRows
import Derived.Test.YtjaabakobpabjaaLogP
import Derived.Test.YtjaabakobpabjaaLogG
import Derived.Lib.MinMax
/- Entries: append of a list to a row of the call's own, as a step. -/
namespace Go.Proofs.Ytjaabakobpabjaa
open Go.ChangeShapes Go.WideShapes Go.ChangeAt Go.RowKit

end Go.Proofs.Ytjaabakobpabjaa
/- The reference of entries: Slice. -/
namespace Go.Proofs.Ytjaabakobpabjaa
open Go.ChangeShapes Go.WideShapes Go.ChangeAt Go.RowKit

/-- Where a slice begins: the number of entries that are passed over. -/
theorem rsl_from {l : Lg} {fr : Int} (h : l.b < fr) : ∃ s : Nat, fr = l.b + 1 + s := ⟨(fr - l.b - 1).toNat, by omega⟩
theorem rsl_fromK {l : Lg} {fr : Int} {s : Nat} (h : (l.b < fr ∧ fr = l.b + 1 + s) ∨ (fr ≤ l.b ∧ s = 0)) (L : List Ent) (hL : L = l.es) : L.drop (fromK l fr) = L.drop s := by
  subst hL
  unfold fromK
  rcases h with ⟨h1, h2⟩ | ⟨h1, h2⟩
  · rw [if_pos h1, show (fr - l.b - 1).toNat = s by omega]
    rcases Nat.le_total s l.es.length with g | g
    · rw [Nat.min_eq_left g]
    · rw [Nat.min_eq_right g, List.drop_length, List.drop_eq_nil_of_le g]
  · rw [if_neg (by omega), h2]
theorem rsl_end {L : List Ent} {s k : Nat} {n : Int} (hk : (k : Int) ≤ n ∨ k = 0) (h : L.length ≤ s + k ∨ n ≤ k) : (L.drop s).take k = (L.drop s).take n.toNat := by
  rcases h with h | h
  · rw [List.take_of_length_le (by rw [List.length_drop]; omega)]
    rcases hk with hk | hk
    · rw [List.take_of_length_le (by rw [List.length_drop]; omega)]
    · subst hk; rw [List.drop_eq_nil_of_le (by omega)]; simp
  · have : k = n.toNat := by omega
    rw [this]
theorem rsl_next {L : List Ent} {s k : Nat} (h : s + k < L.length) : (L.drop s).take (k + 1) = (L.drop s).take k ++ [L[s + k]] := by
  rw [List.take_succ_eq_append_getElem (by rw [List.length_drop]; omega), List.getElem_drop]
theorem rsl_len {L : List Ent} {s k : Nat} (h : k = 0 ∨ s + k ≤ L.length) : ((L.drop s).take k).length = k := by
  rw [List.length_take, List.length_drop]; omega
set_option maxRecDepth 100000 in
set_option maxHeartbeats 8000000 in
theorem rslice_any (l : Lg) (p : Option Addr) (c : Nat) (fr n : Int) (w : World) (hF : LgFit l) (f1 : fr ≤ 9223372036854775807) (n1 : n ≤ 9223372036854775807) (hE : EnSl w (.slice p l.es.length c) l.es) :
    Calls Try.prog 67 #[.agg #[.int .i64 l.b, .int .i64 l.bt, .int .u16 l.j.ov, .int .u16 l.j.ox, .int .u16 l.j.ol, .int .i64 l.j.oe, .int .i64 l.j.ok, .int .u16 l.j.nv, .int .u16 l.j.nx, .int .u16 l.j.nl, .int .i64 l.j.ne, .int .i64 l.j.nk, .bool l.j.two, .slice p l.es.length c], .int .i64 fr, .int .i64 n] w fun r w' => ∃ v, r = .returned v ∧ w'.ownsRow w.heap.size 85 14 v (sliceL l fr n).length (entRow (sliceL l fr n)) ∧ Below w.heap.size w w' := by
  obtain ⟨i0, hi, hz0, hz1, hz2⟩ := info_parts Try.infoEn
  have HF : Hid (LgFit l) := hF
  have HE := Lib.hid hE
  have hb0 := hF.b0; have hb1 := hF.b1; have hn2 := hF.n
  have HA0 := Lib.hid (heap_last w (.cells #[.int .i64 l.b, .int .i64 l.bt, .int .u16 l.j.ov, .int .u16 l.j.ox, .int .u16 l.j.ol, .int .i64 l.j.oe, .int .i64 l.j.ok, .int .u16 l.j.nv, .int .u16 l.j.nx, .int .u16 l.j.nl, .int .i64 l.j.ne, .int .i64 l.j.nk, .bool l.j.two, .slice p l.es.length c] 45))
  have HB0 := Lib.hid ((Below.refl _ w).alloc (Nat.le_refl _) (.cells #[.int .i64 l.b, .int .i64 l.bt, .int .u16 l.j.ov, .int .u16 l.j.ox, .int .u16 l.j.ol, .int .i64 l.j.oe, .int .i64 l.j.ok, .int .u16 l.j.nv, .int .u16 l.j.nx, .int .u16 l.j.nl, .int .i64 l.j.ne, .int .i64 l.j.nk, .bool l.j.two, .slice p l.es.length c] 45))
  have hsz0 : w.heap.size < (w.alloc (.cells #[.int .i64 l.b, .int .i64 l.bt, .int .u16 l.j.ov, .int .u16 l.j.ox, .int .u16 l.j.ol, .int .i64 l.j.oe, .int .i64 l.j.ok, .int .u16 l.j.nv, .int .u16 l.j.nx, .int .u16 l.j.nl, .int .i64 l.j.ne, .int .i64 l.j.nk, .bool l.j.two, .slice p l.es.length c] 45)).heap.size := by simp
  clear hF hE
  have hs : ∃ s : Nat, max fr (l.b + 1) = l.b + 1 + s ∧ ((l.b < fr ∧ fr = l.b + 1 + s) ∨ (fr ≤ l.b ∧ s = 0)) := by
    by_cases h : l.b < fr
    · obtain ⟨s, hs⟩ := rsl_from h; exact ⟨s, by omega, .inl ⟨h, hs⟩⟩
    · exact ⟨0, by omega, .inr ⟨by omega, rfl⟩⟩
  obtain ⟨s, hm, hs⟩ := hs
  have hsb : l.b + 1 + s ≤ 9223372036854775807 := by omega
  have HD := Lib.hid (rsl_fromK hs l.es rfl)
  clear hs
  go_enter Try.func67, Try.ntmps67
  go_upto_region 2 with fail
  obtain ⟨W, hW⟩ : ∃ W, w.alloc (.cells #[.int .i64 l.b, .int .i64 l.bt, .int .u16 l.j.ov, .int .u16 l.j.ox, .int .u16 l.j.ol, .int .i64 l.j.oe, .int .i64 l.j.ok, .int .u16 l.j.nv, .int .u16 l.j.nx, .int .u16 l.j.nl, .int .i64 l.j.ne, .int .i64 l.j.nk, .bool l.j.two, .slice p l.es.length c] 45) = W := ⟨_, rfl⟩
  rw [hW] at HA0 HB0 hsz0 ⊢
  clear hW
  obtain ⟨A, eA⟩ : ∃ A, w.heap.size = A := ⟨_, rfl⟩
  rw [eA] at HA0 hsz0 ⊢
  have HB1 : Hid (∀ wr, Below W.heap.size W wr → Below w.heap.size w wr) := fun wr h => HB0.out.trans (h.mono HB0.out.size)
  clear eA
  have kA := block_cells HA0.out
  go_wp2_with fail
  clear kA hm
  go_loopw [7, 8] (fun v i wr => ∃ (k : Nat) (q : Option Addr) (cc : Nat), ((k : Int) ≤ n ∨ k = 0) ∧ (k = 0 ∨ s + k ≤ l.es.length) ∧ v = .slice q k cc ∧ i = .int .i64 (l.b + 1 + s + k) ∧ Hid (wr.ownsRow W.heap.size 85 14 (.slice q k cc) k (entRow ((l.es.drop s).take k))) ∧ Hid (Below W.heap.size W wr)) (fun _ i _ => (l.b + 1 + l.es.length - intOf i).toNat)
  case atStart => exact ⟨0, none, 0, .inr rfl, .inl rfl, rfl, by simp, World.ownsRow_nil _ _ _ _, Below.refl _ _⟩
  case round =>
    obtain ⟨k, q, cc, hkn, hkl, rfl, rfl, HO, HB⟩ := hrel
    obtain ⟨wk, rfl⟩ : ∃ wk : World, wk = wr := ⟨_, rfl⟩
    have HAk := Lib.hid (below_block HB.out (block_lt HA0.out) HA0.out)
    have kA := block_cells HAk.out
    have HLA := Lib.hid (rlast_any l p c wk hb0 hb1 hn2)
    have hsk : Hid (l.last = l.b + l.es.length) := rfl
    have HEk := Lib.hid (HE.out.keep (HB1.out _ HB.out) (Nat.le_refl _))
    obtain ⟨X, hX⟩ : ∃ X, l.last = X := ⟨_, rfl⟩
    rw [hX] at HLA hsk
    have hX1 : X ≤ l.b + l.es.length := by have := hsk.out; omega
    have hX2 : l.b + l.es.length ≤ X := by have := hsk.out; omega
    clear hX
    have hend : l.es.length ≤ s + k ∨ n ≤ k ∨ (s + k < l.es.length ∧ (k : Int) < n) := by omega
    by_cases hlt : s + k < l.es.length
    · have hd1 : decide (l.b + 1 + (s : Int) + (k : Int) ≤ X) = true := by simp; omega
      by_cases hn : (k : Int) < n
      · have hd2 : decide ((k : Int) < n) = true := by simpa using hn
        obtain ⟨e, he⟩ : ∃ e, l.es[s + k] = e := ⟨_, rfl⟩
        have hat : atL l (l.b + 1 + s + k) = (e, true) := by rw [atL_in (k := s + k) (by omega) hlt, he]
        have hnx := rsl_next hlt
        rw [he] at hnx
        have HNX := Lib.hid hnx
        have HAT := Lib.hid hat
        clear he hat hnx hend
        go_wp2_with fail
        refine HLA.out.mono ?_; rintro r w5 ⟨rfl, hb5⟩
        have HA5 := Lib.hid (below_block hb5 (block_lt HAk.out) HAk.out)
        have HB5 := Lib.hid (HB.out.trans (hb5.mono HB.out.size))
        have HO5 := Lib.hid (own_belowL HO.out hb5 (Nat.le_refl _))
        have hAT := rat_any l p c (l.b + 1 + s + k) w5 hb0 hb1 hn2 (by omega) (by omega) (HEk.out.keep hb5 (Nat.le_refl _)) HAT.out
        have HA := Lib.hid hAT
        clear hAT hb5 kA HLA HO HEk HAk
        have kA := block_cells HA5.out
        go_wp2_with fail
        refine HA.out.mono ?_; rintro r w6 ⟨rfl, hb6⟩
        have HB6 := Lib.hid (HB5.out.trans (hb6.mono HB5.out.size))
        have HO6 := Lib.hid (own_belowL HO5.out hb6 (Nat.le_refl _))
        clear hb6 kA HA HA5 HO5 HB5
        go_upto_region 6 with fail
        obtain ⟨W7, hW7⟩ : ∃ W10, w6.alloc (.cells #[.int .i64 e.t, .int .i64 e.k, .string e.d, .int .u16 e.j.ov, .int .u16 e.j.ox, .int .u16 e.j.ol, .int .i64 e.j.oe, .int .i64 e.j.ok, .int .u16 e.j.nv, .int .u16 e.j.nx, .int .u16 e.j.nl, .int .i64 e.j.ne, .int .i64 e.j.nk, .bool e.j.two] 85) = W10 := ⟨_, rfl⟩
        have hE7 : W7.heap[w6.heap.size]? = some (.cells #[.int .i64 e.t, .int .i64 e.k, .string e.d, .int .u16 e.j.ov, .int .u16 e.j.ox, .int .u16 e.j.ol, .int .i64 e.j.oe, .int .i64 e.j.ok, .int .u16 e.j.nv, .int .u16 e.j.nx, .int .u16 e.j.nl, .int .i64 e.j.ne, .int .i64 e.j.nk, .bool e.j.two] 85 (0, 0)) := by rw [← hW7]; exact heap_last _ _
        have HB7 := Lib.hid (HB6.out.trans ((below_new _ _ hW7).mono HB6.out.size))
        have HO7 := Lib.hid (own_belowL HO6.out (below_new _ _ hW7) (Nat.le_refl _))
        rw [hW7]
        obtain ⟨F, eF⟩ : ∃ D, w6.heap.size = D := ⟨_, rfl⟩
        rw [eF] at hE7 ⊢
        have kE := block_cells hE7
        clear hW7 eF hE7 HB6 HO6
        have HO8 := Lib.hid (own_belowL HO7.out (below_new W7 (.cells #[.int .i64 e.t, .int .i64 e.k, .string e.d, .int .u16 e.j.ov, .int .u16 e.j.ox, .int .u16 e.j.ol, .int .i64 e.j.oe, .int .i64 e.j.ok, .int .u16 e.j.nv, .int .u16 e.j.nx, .int .u16 e.j.nl, .int .i64 e.j.ne, .int .i64 e.j.nk, .bool e.j.two] 85) rfl) (Nat.le_refl _))
        have HB8 := Lib.hid (HB7.out.trans ((below_new W7 (.cells #[.int .i64 e.t, .int .i64 e.k, .string e.d, .int .u16 e.j.ov, .int .u16 e.j.ox, .int .u16 e.j.ol, .int .i64 e.j.oe, .int .i64 e.j.ok, .int .u16 e.j.nv, .int .u16 e.j.nx, .int .u16 e.j.nl, .int .i64 e.j.ne, .int .i64 e.j.nk, .bool e.j.two] 85) rfl).mono HB7.out.size))
        have HS8 := Lib.hid (EnSl.one (e := e) (heap_last W7 (.cells #[.int .i64 e.t, .int .i64 e.k, .string e.d, .int .u16 e.j.ov, .int .u16 e.j.ox, .int .u16 e.j.ol, .int .i64 e.j.oe, .int .i64 e.j.ok, .int .u16 e.j.nv, .int .u16 e.j.nx, .int .u16 e.j.nl, .int .i64 e.j.ne, .int .i64 e.j.nk, .bool e.j.two] 85)))
        have hL8 := entC_one [e]
        have HL8 := Lib.hid hL8
        clear hL8
        go_wp2_with (at_builtin; refine wpList_append_sl rfl _ _ 43 rfl W.heap.size 85 i0 (.agg #[.int .i64 0, .int .i64 0, .string ⟨#[]⟩, .int .u16 0, .int .u16 0, .int .u16 0, .int .i64 0, .int .i64 0, .int .u16 0, .int .u16 0, .int .u16 0, .int .i64 0, .int .i64 0, .bool false]) 14 88 Try.underlying43 hi hz0 hz1 hz2 rfl (by decide) _ k (entRow ((l.es.drop s).take k)) rfl HO8.out _ _ 1 (entRow [e]) rfl HS8.out HL8.out ?_ ?_ (by have := HB8.out.size; exact this) ?_)
        · unfold maxLen; omega
        · omega
        intro v3 w3 hown3 hgrow3
        obtain ⟨q3, cc3, rfl⟩ := own_slice hown3
        have HO3 : Hid (w3.ownsRow W.heap.size 85 14 (.slice q3 (k + 1) cc3) (k + 1) (entRow ((l.es.drop s).take (k + 1)))) := by
          show World.ownsRow _ _ _ _ _ _ _; rw [HNX.out, entRow_app]; exact hown3
        have HB3 : Hid (Below W.heap.size W w3) := HB8.out.grown hgrow3 HB8.out.size (fun j hj => (own_geL HO8.out j hj).1)
        clear hown3 hgrow3 HO8 HS8 HL8 kE HB8 HO7
        go_wp2_with fail
        go_roundw
        case rel => exact ⟨k + 1, q3, cc3, .inl (by omega), .inr (by omega), rfl, by go_num, HO3, HB3⟩
        case measure => simp [intOf]; omega
      · have hd2 : decide ((k : Int) < n) = false := by simp; omega
        have HSL : Hid (sliceL l fr n = (l.es.drop s).take k) := by
          show _ = _; unfold sliceL; rw [HD.out]; exact (rsl_end hkn (.inr (by omega))).symm
        have hlen : ((l.es.drop s).take k).length = k := rsl_len hkl
        have HLE := Lib.hid hlen
        clear hlen hend
        go_wp2_with fail
        refine HLA.out.mono ?_; rintro r w5 ⟨rfl, hb5⟩
        have HB5 := Lib.hid (HB1.out _ (HB.out.trans (hb5.mono HB.out.size)))
        have HO5 := Lib.hid ((own_belowL HO.out hb5 (Nat.le_refl _)).mono (base' := w.heap.size) HB0.out.size)
        clear hb5 kA HLA HO HB
        go_wp2_with fail
        go_ret
        rw [HSL.out, HLE.out]
        exact ⟨_, rfl, HO5.out, HB5.out⟩
    · have hd1 : decide (l.b + 1 + (s : Int) + (k : Int) ≤ X) = false := by simp; omega
      have HSL : Hid (sliceL l fr n = (l.es.drop s).take k) := by
        show _ = _; unfold sliceL; rw [HD.out]; exact (rsl_end hkn (.inl (by omega))).symm
      have hlen : ((l.es.drop s).take k).length = k := rsl_len hkl
      have HLE := Lib.hid hlen
      clear hlen hend
      go_wp2_with fail
      refine HLA.out.mono ?_; rintro r w5 ⟨rfl, hb5⟩
      have HB5 := Lib.hid (HB1.out _ (HB.out.trans (hb5.mono HB.out.size)))
      have HO5 := Lib.hid ((own_belowL HO.out hb5 (Nat.le_refl _)).mono (base' := w.heap.size) HB0.out.size)
      clear hb5 kA HLA HO HB
      go_wp2_with fail
      go_ret
      rw [HSL.out, HLE.out]
      exact ⟨_, rfl, HO5.out, HB5.out⟩
end Go.Proofs.Ytjaabakobpabjaa
