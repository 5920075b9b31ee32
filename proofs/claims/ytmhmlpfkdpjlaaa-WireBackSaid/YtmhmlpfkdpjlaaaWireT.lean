/- Wire: what was written is read: a command without spans and writes. -/
import Derived.Test.YtmhmlpfkdpjlaaaWireM
import Derived.Test.YtmhmlpfkdpjlaaaWireC
namespace Go.Proofs.Ytmhmlpfkdpjlaaa
open Go.ChangeShapes Go.WideShapes Go.ChangeAt Go.RowKit

theorem zag_zig {v : Int} (_h : In64 v) : zagI (zigI v) = v := by
  unfold zagI zigI
  split <;> split <;> omega
theorem rdNw_enc {v : Int} (h : In64 v) (r : List Int) : rdNw (encN v ++ r) false = (v, r, false) := by
  have f := zigI_fit h
  unfold rdNw encN
  rw [takeV_var _ (by omega) r]
  simp only [Int.toNat_natCast, List.drop_left, Int.toNat_of_nonneg f.1, zag_zig h]
  simp
theorem encN_oct (v : Int) : ∀ x ∈ encN v, 0 ≤ x ∧ x ≤ 255 := varN_bd _
theorem stampB_octW (a b : Int) : ∀ x ∈ stampB a b, 0 ≤ x ∧ x ≤ 255 := fun x hx => by
  rcases List.mem_append.1 hx with h | h
  · exact bePre_bd _ _ _ x h
  · exact bePre_bd _ _ _ x h
theorem rdSw_enc {a b : Int} (ha : In64 a) (hb : In64 b) (r : List Int) : rdSw (stampB a b ++ r) false = ((a, b), r, false) := by
  have ht : (stampB a b ++ r).take 16 = stampB a b := by rw [List.take_left' (stampB_len a b)]
  have hd : (stampB a b ++ r).drop 16 = r := by rw [List.drop_left' (stampB_len a b)]
  have h0 : takeE (stampB a b) = 0 := by unfold takeE; rw [stampB_len]; rfl
  have bd : ∀ {v : Int}, In64 v → 0 ≤ orderI v ∧ orderI v ≤ 18446744073709551615 ∧ backI (orderI v) = v := fun {v} h => by unfold backI orderI; obtain ⟨h0, h1⟩ := h; omega
  unfold rdSw
  rw [ht, hd, h0]
  have h1 : takeW (stampB a b) = a := by
    unfold takeW; rw [if_pos h0, List.drop_zero]
    unfold stampB
    rw [List.take_left' (bePre_len _ _ _), beVal_8 _ (bd ha).1 (bd ha).2.1, (bd ha).2.2]
  have h2 : takeT (stampB a b) = b := by
    unfold takeT; rw [if_pos h0]
    unfold stampB
    rw [List.drop_left' (bePre_len _ _ _), List.take_of_length_le (by rw [bePre_len]; decide), beVal_8 _ (bd hb).1 (bd hb).2.1, (bd hb).2.2]
  rw [h1, h2]; simp
theorem rdFw_enc (b : Bool) (r : List Int) : rdFw (encF b ++ r) false = (b, r, false) := by
  cases b <;> rfl
theorem rdYw_enc {n l s a : Int} (hn : In64 n) (hl : In64 l) (hs : In64 s) (ha : In64 a) (r : List Int) : rdYw (encY n l s a ++ r) false = ((n, l, s, a), r, false) := by
  have e : encY n l s a ++ r = encN n ++ (encN l ++ (encN s ++ (encN a ++ r))) := by simp [encY]
  rw [e]
  exact rdYw_is (rdNw_enc hn _) (rdNw_enc hl _) (rdNw_enc hs _) (rdNw_enc ha _)
set_option maxRecDepth 100000 in
set_option maxHeartbeats 2000000 in
theorem rlist_zero (B R : Nat) (xs ys : List Int) (bad b2 : Bool) (fv : Value) (w : World) (hx : ∀ x ∈ xs, 0 ≤ x ∧ x ≤ 255) (h : RdS B w R xs bad) (hz : rdNw xs bad = (0, ys, b2)) :
    Calls Try.prog 61 #[.pointer (some ⟨R, 0, none⟩), fv] w fun e w' => e = .returned (.tuple #[]) ∧ RdS B w' R ys b2 ∧ w.grownBy w' (some R) := by
  have HC := rnum_any B R xs bad w hx h
  rw [hz] at HC
  dsimp only at HC
  have HC' := Lib.hid HC
  clear HC hz h
  go_enter Try.func61, Try.ntmps61
  go_wp2_with fail
  refine HC'.out.mono ?_; rintro e w1 ⟨rfl, h1, g1⟩
  have H1 := Lib.hid h1; have G1 := Lib.hid g1
  clear h1 g1
  go_wp2_with fail
  refine wp_loop_rounds 1 ?_
  rw [rounds_succ]
  go_wp2_with fail
  first | go_end0 | go_ret
  exact ⟨rfl, H1.out, G1.out⟩
end Go.Proofs.Ytmhmlpfkdpjlaaa
