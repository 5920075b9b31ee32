/- Contracts of package stamp and of its reference: which stamp, which attempt is ahead; the later one. -/
import Derived.Test.YtabiccpodnjieaaProg
import Derived.Test.YtabiccpodnjieaaPlainStamp
import Derived.Test.YtabiccpodnjieaaCalm
import Derived.StillTailTactics
namespace Go.Proofs.Ytabiccpodnjieaa
open Go.RowKit

theorem ret_int {k : IntKind} {a b : Int} (h : a = b) : Ending.returned (.int k a) = .returned (.int k b) := by rw [h]
theorem ret_bool {a b : Bool} (h : a = b) : Ending.returned (.bool a) = .returned (.bool b) := by rw [h]

set_option maxHeartbeats 400000 in
theorem isNaN_int (x : Int) (w : World) : Calls Try.prog 48 #[.int .i64 x] w fun e w' => e = .returned (.bool false) ∧ w = w' := by
  go_enter Try.func48, Try.ntmps48
  go_wp2
  go_ret
  exact ⟨ret_bool (by simp), rfl⟩



set_option maxHeartbeats 400000 in
theorem cmp_int (x y : Int) (w : World) : Calls Try.prog 44 #[.int .i64 x, .int .i64 y] w fun e w' => e = .returned (.int .i64 (cmpI x y)) ∧ w = w' := by
  rcases cmpI_cases x y with ⟨h, hc⟩ | ⟨h, hc⟩ | ⟨h, hc⟩
  all_goals
    have HC := Lib.hid hc
    clear hc
    first | (subst h; have h1 : ¬ x < x := by omega) | have h2 : ¬ x < y := by omega | skip
    go_enter Try.func44, Try.ntmps44
    go_wp2_with (go_at_call 48; refine (isNaN_int _ _).mono ?_; rintro e w' ⟨rfl, rfl⟩)
    go_ret
    exact ⟨ret_int HC.out.symm, rfl⟩



theorem orI_drop (xs : List Int) (k : Nat) (v : Int) (hk : k < xs.length) (hv : xs.getD k 0 = v) : orI (xs.drop k) = if v = 0 then orI (xs.drop (k + 1)) else v := by
  rw [List.drop_eq_getElem_cons hk]
  have : xs[k] = v := by rw [← hv]; simp [List.getD, hk]
  simp only [orI, this]

set_option maxHeartbeats 800000 in
theorem or_any (b n : Nat) (xs : List Int) (hn : xs.length = n) (hm : n ≤ 100) (w : World) (hc : ∀ j, j < n → w.cell? ⟨b, j, none⟩ = some (.int .i64 (xs.getD j 0))) :
    Calls Try.prog 43 #[.slice (some ⟨b, 0, none⟩) n n] w fun e w' => e = .returned (.int .i64 (orI xs)) ∧ w = w' := by
  have HC := Lib.hid hc
  have HN := Lib.hid hn
  clear hc hn
  go_enter Try.func43, Try.ntmps43
  go_wp2
  go_loop [8] (fun i => ∃ k : Nat, k ≤ n ∧ i = .int .i64 k ∧ Hid (orI (xs.drop k) = orI xs)) (fun i => n - (intOf i).toNat)
  case atStart => exact ⟨0, by omega, rfl, by show _ = _; rw [List.drop_zero]⟩
  case round =>
    obtain ⟨k, hk, rfl, HO⟩ := hrel
    by_cases hlt : k < n
    · obtain ⟨v, hv⟩ : ∃ v, xs.getD k 0 = v := ⟨_, rfl⟩
      have hcell := HC.out k hlt
      rw [hv] at hcell
      have hd := orI_drop xs k v (by rw [HN.out]; exact hlt) hv
      rw [HO.out] at hd
      have HD := Lib.hid hd
      clear hv hd
      by_cases hz : v = 0
      · subst hz
        go_wp2
        go_round
        case rel => exact ⟨k + 1, by omega, by go_num, by show _ = _; rw [HD.out, if_pos rfl]⟩
        case measure => simp [intOf]; omega
      · have hz' : (v != 0) = true := by simpa using hz
        have hz'' : (v == 0) = false := by simpa using hz
        have HZ := Lib.hid hz
        clear hz
        go_wp2
        go_ret
        exact ⟨ret_int (by rw [HD.out, if_neg HZ.out]), rfl⟩
    · obtain rfl : k = n := by omega
      go_wp2
      go_ret
      exact ⟨ret_int (by rw [← HO.out, List.drop_of_length_le (by rw [HN.out]; omega)]; rfl), rfl⟩
end Go.Proofs.Ytabiccpodnjieaa
