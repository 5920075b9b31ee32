/- Put, of package bits and of its reference: one contract each, errors too. -/
import Derived.Test.YtejcihffmhmpcaaVar2
namespace Go.Proofs.Ytejcihffmhmpcaa
open Go.RowKit

def putE (x n : Int) : Int := if n < 1 ∨ 8 < n then 1 else if 2 ^ (8 * n).toNat ≤ x then 5 else 0
def putY (xs : List Int) (x n : Int) : List Int := if putE x n = 0 then xs ++ bePre x n n.toNat else []
def PutU (w : World) (ys : List Int) (er : Int) (e : Ending) (w' : World) : Prop :=
  ∃ v', e = .returned (.tuple #[v', .int .i64 er]) ∧ w'.ownsRow w.heap.size 5 1 v' ys.length (byt ys) ∧ Below w.heap.size w w'
theorem putU_err (w : World) (xs : List Int) (x n er : Int) (h : putE x n = er) (hne : er ≠ 0) (e : Ending) (w' : World) (he : e = .returned (.tuple #[.slice none 0 0, .int .i64 er])) (hb : Below w.heap.size w w') : PutU w (putY xs x n) (putE x n) e w' := by
  rw [h]
  refine ⟨_, he, ?_, hb⟩
  unfold putY
  rw [if_neg (by rw [h]; exact hne)]
  exact ⟨rfl, .inl ⟨rfl, rfl⟩⟩

theorem put_un (B : Nat) (v : Value) (xs : List Int) (x n : Int) (w : World) (hs : Sl B w v 1 xs.length (byt xs)) (hB : B ≤ w.heap.size) (hb : (xs.length : Int) ≤ 140737488355320) (h0 : 0 ≤ x) (h1 : x ≤ 18446744073709551615) :
    Calls Try.prog 21 #[v, .int .u64 x, .int .i64 n] w (PutU w (putY xs x n) (putE x n)) := by
  by_cases hn : n < 1 ∨ 8 < n
  · exact (put_arg v x n w hn).mono fun e w' ⟨he, hw⟩ => putU_err w xs x n 1 (by unfold putE; rw [if_pos hn]) (by decide) e w' he (by rw [← hw]; exact Below.refl _ _)
  · by_cases hx : 2 ^ (8 * n).toNat ≤ x
    · exact (put_range v x n w h0 h1 (by omega) (by omega) hx).mono fun e w' ⟨he, hw⟩ => putU_err w xs x n 5 (by unfold putE; rw [if_neg hn, if_pos hx]) (by decide) e w' he (by rw [← hw]; exact Below.refl _ _)
    · have hE : putE x n = 0 := by unfold putE; rw [if_neg hn, if_neg hx]
      refine (put_ok B v xs x n w hs hB hb h0 h1 (by omega) (by omega) (by omega)).mono fun e w' ⟨v', he, ho, hbl⟩ => ?_
      refine ⟨v', by rw [hE]; exact he, ?_, hbl⟩
      unfold putY; rw [if_pos hE, List.length_append, bePre_len]; exact ho
theorem refPut_un (B : Nat) (v : Value) (xs : List Int) (x n : Int) (w : World) (hs : Sl B w v 1 xs.length (byt xs)) (hB : B ≤ w.heap.size) (hb : (xs.length : Int) ≤ 140737488355320) (h0 : 0 ≤ x) (h1 : x ≤ 18446744073709551615) :
    Calls Try.prog 22 #[v, .int .u64 x, .int .i64 n] w (PutU w (putY xs x n) (putE x n)) := by
  by_cases hn : n < 1 ∨ 8 < n
  · exact (refPut_arg v x n w hn).mono fun e w' ⟨he, hw⟩ => putU_err w xs x n 1 (by unfold putE; rw [if_pos hn]) (by decide) e w' he (by rw [← hw]; exact Below.refl _ _)
  · obtain ⟨n, rfl⟩ := Int.eq_ofNat_of_zero_le (show 0 ≤ n by omega)
    have e8 : (8 * (n : Int)).toNat = 8 * n := by omega
    refine (refPut_any B v xs x n w hs hB hb h0 h1 (by omega) (by omega)).mono fun e w' ⟨h2, h3, hbl⟩ => ?_
    by_cases hx : 2 ^ (8 * n) ≤ x
    · exact putU_err w xs x n 5 (by unfold putE; rw [if_neg hn, e8, if_pos hx]) (by decide) e w' (h3 hx) hbl
    · have hE : putE x n = 0 := by unfold putE; rw [if_neg hn, e8, if_neg hx]
      obtain ⟨v', he, ho⟩ := h2 (by omega)
      refine ⟨v', by rw [hE]; exact he, ?_, hbl⟩
      unfold putY; rw [if_pos hE, Int.toNat_natCast]; exact ho
end Go.Proofs.Ytejcihffmhmpcaa
