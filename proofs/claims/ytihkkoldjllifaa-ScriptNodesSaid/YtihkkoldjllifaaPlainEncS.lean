/- Script: the plain law: both make the same bytes; what some bytes say is said by the bytes that are made of it. -/
import Derived.Test.YtihkkoldjllifaaPlainEncR
namespace Go.Proofs.Ytihkkoldjllifaa

theorem same_of {e : Ev} {xs : List Int} (h : refB e = some xs) (hp : progB e = xs) : (if (encR e).2 = true then (encR e).1 else []) = encP e := by
  rw [encR_some h]; unfold encP; rw [hp]; simp
theorem none_of {e : Ev} (h : refB e = none) (hp : decE 9 (progB e) ≠ [e]) : (if (encR e).2 = true then (encR e).1 else []) = encP e := by
  rw [encR_none h]; unfold encP; rw [if_neg hp]; simp
theorem some_of {e : Ev} {ys : List Int} (h : refB e = some ys) (hp : decE 9 (progB e) ≠ [e]) (hr : decE 9 ys ≠ [e]) : (if (encR e).2 = true then (encR e).1 else []) = encP e := by
  rw [encR_some h]; unfold encP; rw [if_neg hp, decide_eq_false hr]; simp
theorem oneR_ten (n : Int) (xs : List Int) (h : xs.getD 0 0 % 16 = 10) : (oneR n xs).t = strOfNums (xs.drop 3) := by unfold oneR; simp only [h]; simp [evO]
theorem ks_two {ks : List Int} (h : ks.length = 2) : ∃ a b, ks = [a, b] := by
  match ks, h with
  | [a, b], _ => exact ⟨a, b, rfl⟩
theorem enc_same (e : Ev) : (if (encR e).2 = true then (encR e).1 else []) = encP e := by
  by_cases h1 : e.k = 1
  · exact same_of (xs := [0, nodeB e.n]) (by unfold refB; simp [h1]) (by unfold progB; simp [h1])
  by_cases h2 : e.k = 2
  · have hr : refB e = some [4, nodeB e.n, u8w (e.w.tdiv 256), u8w (e.w.tmod 256)] := by unfold refB; simp [h2]
    have hp : progB e = [4, nodeB e.n, u8w (e.w / 256), u8w e.w] := by unfold progB; simp [h2]
    by_cases hs : u8w (e.w.tdiv 256) = u8w (e.w / 256) ∧ u8w (e.w.tmod 256) = u8w e.w
    · exact same_of hr (by rw [hp, hs.1, hs.2])
    · refine some_of hr ?_ ?_
      · rw [hp]; intro hd
        have o := dec_one (by rw [← hp]; exact progB_oct e) (by simp) (by simp) hd
        exact hs (wall_same (congrArg Ev.w o.2.1).symm)
      · intro hd
        have o := dec_one (refB_oct hr) (by simp) (by simp) hd
        have := wall_back (congrArg Ev.w o.2.1).symm
        exact hs ⟨this.1.symm, this.2.symm⟩
  by_cases h3 : e.k = 3
  · exact same_of (xs := [5, u8w e.i]) (by unfold refB; simp [h3]) (by unfold progB; simp [h3])
  by_cases h4 : e.k = 4
  · exact same_of (xs := [8, u8w e.i]) (by unfold refB; simp [h4]) (by unfold progB; simp [h4])
  by_cases h5 : e.k = 5
  · exact same_of (xs := [9, u8w e.i]) (by unfold refB; simp [h5]) (by unfold progB; simp [h5])
  by_cases h6 : e.k = 6
  · have hp : progB e = [10, nodeB e.n, u8w e.t.size] ++ txt e.t := by unfold progB; simp [h6]
    by_cases hb : 255 < e.t.size
    · refine none_of (by unfold refB; simp [h6, hb]) ?_
      rw [hp]; intro hd
      have o := dec_one (by rw [← hp]; exact progB_oct e) (by simp) (by simp) hd
      have f := u8w_fit e.t.size
      obtain ⟨s, hs⟩ := Int.eq_ofNat_of_zero_le f.1
      have hL : longR ([10, nodeB e.n, u8w e.t.size] ++ txt e.t) = 3 + s := by rw [hs]; simp [longR]; omega
      have ht := congrArg Ev.t o.2.1
      rw [hL, hs] at ht
      rw [oneR_ten _ _ (by rw [getD_take (by omega)]; simp)] at ht
      have ht' : strOfNums ((([10, nodeB e.n, (s : Int)] ++ txt e.t).take (3 + s)).drop 3) = e.t := ht
      have hz := congrArg ByteArray.size ht'
      rw [strOfNums_size] at hz
      simp only [List.length_drop, List.length_take] at hz
      omega
    · exact same_of (xs := [10, nodeB e.n, u8w e.t.size] ++ txt e.t) (by unfold refB; simp [h6, hb]) hp
  by_cases h7 : e.k = 7
  · have hp : progB e = [11, nodeB e.n] ++ e.ks.map u8w := by unfold progB; simp [h7]
    by_cases hs : e.ks.length = 2 ∧ smallB (e.ks.getD 0 0) 255 = true ∧ smallB (e.ks.getD 1 0) 255 = true
    · have hr : refB e = some [11, nodeB e.n, u8w (e.ks.getD 0 0), u8w (e.ks.getD 1 0)] := by
        unfold refB; simp only [h7]; rw [if_neg (by decide), if_neg (by decide), if_neg (by decide), if_neg (by decide), if_neg (by decide), if_neg (by decide), if_pos trivial, if_pos hs]
      obtain ⟨a, b, hab⟩ := ks_two hs.1
      refine same_of hr ?_
      rw [hp, hab]; rfl
    · have hr : refB e = none := by
        unfold refB; simp only [h7]; rw [if_neg (by decide), if_neg (by decide), if_neg (by decide), if_neg (by decide), if_neg (by decide), if_neg (by decide), if_pos trivial, if_neg hs]
      refine none_of hr ?_
      rw [hp]; intro hd
      have o := dec_one (by rw [← hp]; exact progB_oct e) (by simp) (by simp) hd
      have hk : [((([11, nodeB e.n] ++ e.ks.map u8w).take 4).getD 2 0), ((([11, nodeB e.n] ++ e.ks.map u8w).take 4).getD 3 0)] = e.ks := congrArg Ev.ks o.2.1
      have hlen := congrArg List.length hk
      obtain ⟨a, b, hab⟩ := ks_two hlen.symm
      rw [hab] at hk hs
      simp only [List.map_cons, List.map_nil, List.cons_append, List.nil_append, List.take_succ_cons, List.take_zero, List.getD_cons_succ, List.getD_cons_zero, List.cons.injEq, and_true] at hk
      have fa := u8w_fit a
      have fb := u8w_fit b
      rw [hk.1] at fa
      rw [hk.2] at fb
      refine hs ⟨rfl, ?_, ?_⟩
      · simp [smallB]; omega
      · simp [smallB]; omega
  by_cases h8 : e.k = 8
  · exact same_of (xs := [12, nodeB e.n]) (by unfold refB; simp [h8]) (by unfold progB; simp [h8])
  by_cases h9 : e.k = 9
  · exact same_of (xs := [13, nodeB e.n, u8w e.i]) (by unfold refB; simp [h9]) (by unfold progB; simp [h9])
  by_cases h12 : e.k = 12
  · have hr : refB e = some [14, nodeB e.n, u8w e.i, u8w (e.w.tdiv 256), u8w (e.w.tmod 256)] := by unfold refB; simp [h12]
    have hp : progB e = [14, nodeB e.n, u8w e.i, u8w (e.w / 256), u8w e.w] := by unfold progB; simp [h12]
    by_cases hs : u8w (e.w.tdiv 256) = u8w (e.w / 256) ∧ u8w (e.w.tmod 256) = u8w e.w
    · exact same_of hr (by rw [hp, hs.1, hs.2])
    · refine some_of hr ?_ ?_
      · rw [hp]; intro hd
        have o := dec_one (by rw [← hp]; exact progB_oct e) (by simp) (by simp) hd
        exact hs (wall_same (congrArg Ev.w o.2.1).symm)
      · intro hd
        have o := dec_one (refB_oct hr) (by simp) (by simp) hd
        have := wall_back (congrArg Ev.w o.2.1).symm
        exact hs ⟨this.1.symm, this.2.symm⟩
  · have hp : progB e = [] := by unfold progB; simp [h1, h2, h3, h4, h5, h6, h7, h8, h9, h12]
    refine none_of (by unfold refB; simp [h1, h2, h3, h4, h5, h6, h7, h8, h9, h12]) ?_
    rw [hp, decE_nil]; simp
end Go.Proofs.Ytihkkoldjllifaa
