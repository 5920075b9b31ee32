/- entries: Slice. -/
import Derived.Test.YtabiccpodnjieaaLogJ
import Derived.Test.YtabiccpodnjieaaLogH
import Derived.Lib.MinMax
namespace Go.Proofs.Ytabiccpodnjieaa
open Go.ChangeShapes Go.WideShapes Go.ChangeAt Go.RowKit

def fromK (l : Lg) (from' : Int) : Nat := if l.b < from' then min (from' - l.b - 1).toNat l.es.length else 0
def sliceL (l : Lg) (from' most : Int) : List Ent := (l.es.drop (fromK l from')).take most.toNat
theorem slice_leaf {w W : World} {q : Option Addr} {c' k m : Nat} {L : List Ent} {most : Int} {v : Value} (hE : EnSl w (.slice q (L.length - k) c') (L.drop k)) (hb : Below w.heap.size w W) (hk : k ≤ L.length) (hM : m = min most.toNat (L.length - k)) (hv : v = .slice q m c') : EnSl W v ((L.drop k).take most.toNat) := by
  subst hv
  have hl : L.length - k = (L.drop k).length := by rw [List.length_drop]
  rw [hl] at hE
  have h := (hE.keep hb (Nat.le_refl _)).take (n := m) (by rw [List.length_drop]; omega)
  have hl : ((L.drop k).take m).length = m := by rw [List.length_take, List.length_drop]; omega
  have ht : (L.drop k).take m = (L.drop k).take most.toNat := by rw [hM, ← List.length_drop, ← List.take_eq_take_min]
  rw [hl, ht] at h
  exact h
set_option maxRecDepth 100000 in
set_option maxHeartbeats 4000000 in
theorem slice_any (l : Lg) (p : Option Addr) (c : Nat) (fr most : Int) (w : World) (h0 : 0 ≤ l.b) (h1 : l.b ≤ 4398046511104) (hn : l.es.length ≤ 1000000) (f0 : fr ≤ 9223372036854775807) (m1 : most ≤ 9223372036854775807) (hE : EnSl w (.slice p l.es.length c) l.es) :
    Calls Try.prog 26 #[.agg #[.int .i64 l.b, .int .i64 l.bt, .int .u16 l.j.ov, .int .u16 l.j.ox, .int .u16 l.j.ol, .int .i64 l.j.oe, .int .i64 l.j.ok, .int .u16 l.j.nv, .int .u16 l.j.nx, .int .u16 l.j.nl, .int .i64 l.j.ne, .int .i64 l.j.nk, .bool l.j.two, .slice p l.es.length c], .int .i64 fr, .int .i64 most] w fun r w' => ∃ v, r = .returned v ∧ w'.ownsRow w.heap.size 47 14 v (sliceL l fr most).length (entRow (sliceL l fr most)) ∧ Below w.heap.size w w' := by
  obtain ⟨p', c', he, hc1, hc2⟩ := hE.form
  simp only [Value.slice.injEq] at he
  obtain ⟨rfl, -, rfl⟩ := he
  unfold maxLen at hc2
  have HE := Lib.hid hE
  clear hE
  have hk0 : ∃ k : Nat, k ≤ l.es.length ∧ sliceL l fr most = (l.es.drop k).take most.toNat ∧ ((l.b < fr ∧ min (max (fr - l.b - 1) 0) (l.es.length : Int) = k) ∨ (¬ l.b < fr ∧ k = 0)) := by
    by_cases hb : l.b < fr
    · refine ⟨min (fr - l.b - 1).toNat l.es.length, Nat.min_le_right _ _, ?_, .inl ⟨hb, by omega⟩⟩
      unfold sliceL fromK; rw [if_pos hb]
    · refine ⟨0, Nat.zero_le _, ?_, .inr ⟨hb, rfl⟩⟩
      unfold sliceL fromK; rw [if_neg hb]
  obtain ⟨k, hkl, hs, hk1⟩ := hk0
  have HS := Lib.hid hs
  obtain ⟨m, hm⟩ : ∃ m : Nat, min (max most 0) ((l.es.length - k : Nat) : Int) = m := ⟨(min (max most 0) ((l.es.length - k : Nat) : Int)).toNat, by omega⟩
  have HM := Lib.hid hm
  have hm1 : m ≤ l.es.length - k := by omega
  have hm2 : m = min most.toNat (l.es.length - k) := by omega
  have HM2 := Lib.hid hm2
  clear hs hm hm2
  rcases hk1 with ⟨hb, hk⟩ | ⟨hb, hk⟩
  · have HK := Lib.hid hk
    clear hk
    have hd : decide (l.b < fr) = true := by simpa using hb
    go_enter Try.func26, Try.ntmps26
    go_upto_region 4 with fail
    rw [HK.out]
    have hsl := HE.out.drop_if hkl
    by_cases hck : c = k
    · rw [if_pos hck] at hsl
      have HSL := Lib.hid hsl
      clear hsl
      have hkc : k = l.es.length := by omega
      subst hkc
      subst hck
      rw [Nat.sub_self] at HM HM2 HSL
      go_upto_region 5 with fail
      go_wp2_with fail
      refine (clone_any _ ((l.es.drop l.es.length).take most.toNat) _ (slice_leaf (by rw [Nat.sub_self]; exact HSL.out) ((Below.refl _ _).alloc (Nat.le_refl _) _) (Nat.le_refl _) (by omega) rfl) (by rw [List.length_take, List.length_drop]; omega)).mono ?_
      rintro r w2 ⟨v, rfl, ho, hb2⟩
      have HO := Lib.hid (ho.mono (base' := w.heap.size) (by simp))
      have HB2 : Hid (Below w.heap.size w w2) := ((Below.refl _ _).alloc (Nat.le_refl _) _).trans (hb2.mono (by simp))
      clear ho hb2
      go_wp2_with fail
      go_ret
      rw [HS.out]
      exact ⟨_, rfl, HO.out, HB2.out⟩
    · rw [if_neg hck] at hsl
      have HSL := Lib.hid hsl
      clear hsl
      go_upto_region 5 with fail
      have hm := HM.out
      go_wp2_with fail
      refine (clone_any _ ((l.es.drop k).take most.toNat) _ (slice_leaf HSL.out ((Below.refl _ _).alloc (Nat.le_refl _) _) (by omega) HM2.out rfl) (by rw [List.length_take, List.length_drop]; omega)).mono ?_
      rintro r w2 ⟨v, rfl, ho, hb2⟩
      have HO := Lib.hid (ho.mono (base' := w.heap.size) (by simp))
      have HB2 : Hid (Below w.heap.size w w2) := ((Below.refl _ _).alloc (Nat.le_refl _) _).trans (hb2.mono (by simp))
      clear ho hb2 hm
      go_wp2_with fail
      go_ret
      rw [HS.out]
      exact ⟨_, rfl, HO.out, HB2.out⟩
  · have hd : decide (l.b < fr) = false := by simpa using hb
    subst hk
    have hsl : EnSl w (.slice p (l.es.length - 0) c) (l.es.drop 0) := HE.out
    have HSL := Lib.hid hsl
    clear hsl
    go_enter Try.func26, Try.ntmps26
    go_upto_region 5 with fail
    have hm := (show min (max most 0) (l.es.length : Int) = m from HM.out)
    go_wp2_with fail
    refine (clone_any _ ((l.es.drop 0).take most.toNat) _ (slice_leaf HSL.out ((Below.refl _ _).alloc (Nat.le_refl _) _) (by omega) HM2.out rfl) (by rw [List.length_take, List.length_drop]; omega)).mono ?_
    rintro r w2 ⟨v, rfl, ho, hb2⟩
    have HO := Lib.hid (ho.mono (base' := w.heap.size) (by simp))
    have HB2 : Hid (Below w.heap.size w w2) := ((Below.refl _ _).alloc (Nat.le_refl _) _).trans (hb2.mono (by simp))
    clear ho hb2 hm
    go_wp2_with fail
    go_ret
    rw [HS.out]
    exact ⟨_, rfl, HO.out, HB2.out⟩
end Go.Proofs.Ytabiccpodnjieaa
