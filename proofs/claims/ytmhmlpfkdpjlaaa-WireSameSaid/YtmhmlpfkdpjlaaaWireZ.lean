/- Wire: 'begun' of layer 14 tells true. -/
import Derived.Test.YtmhmlpfkdpjlaaaWireD
import Derived.Test.YtmhmlpfkdpjlaaaWireU
import Derived.Test.YtmhmlpfkdpjlaaaWireG
import Derived.Test.YtmhmlpfkdpjlaaaWireV
import Derived.Test.YtmhmlpfkdpjlaaaPutL
namespace Go.Proofs.Ytmhmlpfkdpjlaaa
open Go.ChangeShapes Go.WideShapes Go.ChangeAt Go.RowKit

def cmZ : CmX := ⟨0, 0, 0, 0, 0, 0, 0, 0, 0, 0, 0, false, [], []⟩
def cmB : CmX := ⟨3, 0, 0, 0, 0, 0, 0, 0, 0, 0, -1, false, [], []⟩
theorem varN_0 : varN 0 = [0] := by rw [varN_small 0 (by omega)]; rfl
theorem encN_0 : encN 0 = [0] := by unfold encN; rw [show (zigI 0).toNat = 0 from rfl, varN_0]
theorem cmZ_len : (encCm cmZ).length = 29 := by
  unfold encCm encHd encSps encWrs encY cmZ
  simp only [List.length_append, List.length_nil, List.flatMap_nil, Int.natCast_zero, encN_0, stampB_len, List.length_cons]
  rfl
theorem varN_s (n : Nat) (h : n < 128) : (varN n).length = 1 := by rw [varN_small n h]; rfl
theorem cmB_len : (encCm cmB).length = 29 := by
  unfold encCm encHd encSps encWrs encY cmB
  have h6 : (encN 3).length = 1 := by unfold encN; rw [show (zigI 3).toNat = 6 from rfl]; exact varN_s 6 (by omega)
  have h1 : (encN (-1)).length = 1 := by unfold encN; rw [show (zigI (-1)).toNat = 1 from rfl]; exact varN_s 1 (by omega)
  simp only [List.length_append, List.length_nil, List.flatMap_nil, Int.natCast_zero, encN_0, stampB_len, List.length_cons, h6, h1]
  rfl
theorem cmZ_f : CmF cmZ := by
  constructor <;> first | (unfold cmZ In64; constructor <;> decide) | (unfold cmZ; simp)
theorem cmB_f : CmF cmB := by
  constructor <;> first | (unfold cmB In64; constructor <;> decide) | (unfold cmB; simp)
theorem sps_nil (w : World) (p : Option Addr) : SpsAt w p [] := fun j hj => absurd hj (by simp)
theorem wrs_nil (w : World) (p : Option Addr) : WrsAt w p [] := fun j hj => absurd hj (by simp)
theorem ces_nil (w : World) (p : Option Addr) : CesAt w p [] := fun j hj => absurd hj (by simp)
theorem ous_nil (w : World) (p : Option Addr) : OusAt w p [] := fun j hj => absurd hj (by simp)
set_option maxRecDepth 100000 in
set_option maxHeartbeats 8000000 in
theorem begun_any (w : World) :
    Calls Try.prog 7 #[] w fun r w' => r = .returned (.bool true) ∧ Below w.heap.size w w' := by
  have HNE : Hid (decide (cmB = cmZ) = false) := by show _ = _; rw [decide_eq_false_iff_not]; intro h; injection h with h1; omega
  go_enter Try.func7, Try.ntmps7
  go_wp2_with fail
  refine Calls.mono (wcmd_any cmZ none none 0 0 w cmZ_f (sps_nil _ _) (wrs_nil _ _) (by rw [cmZ_len]; omega) (Nat.zero_le _) (Nat.zero_le _)) ?_; rintro r w1 ⟨v1, rfl, ho1, hb1⟩
  obtain ⟨p1, c1, rfl, hc1, hc2, -, -⟩ := (Sl.of_own ho1).form
  have HB1 := Lib.hid hb1
  rw [cmZ_len] at hc1 ⊢
  clear ho1 hb1
  go_wp2_with fail
  refine Calls.mono (wcmd_any cmB none none 0 0 w1 cmB_f (sps_nil _ _) (wrs_nil _ _) (by rw [cmB_len]; omega) (Nat.zero_le _) (Nat.zero_le _)) ?_; rintro r w2 ⟨v2, rfl, ho2, hb2⟩
  have HB2 := Lib.hid (HB1.out.trans (hb2.mono HB1.out.size))
  have HS2 := Lib.hid (Sl.of_own ho2)
  clear ho2 hb2 HB1
  go_wp2_with fail
  refine Calls.mono (takeCmd_none cmB v2 w2 cmB_f rfl rfl HS2.out) ?_; rintro r w3 ⟨rfl, hb3⟩
  have HB3 := Lib.hid (HB2.out.trans (hb3.mono HB2.out.size))
  clear hb3 HB2 HS2
  dsimp only [cmB]
  go_upto_region 3 with fail
  obtain ⟨W, hW⟩ : ∃ W : World, w3.alloc (.cells #[.int .i64 3, .int .i64 0, .int .i64 0, .int .i64 0, .int .i64 0, .int .i64 0, .int .i64 0, .int .i64 0, .int .i64 0, .int .i64 0, .int .i64 (-1), .bool false, .slice none 0 0, .slice none 0 0] 29) = W := ⟨_, rfl⟩
  have hA : W.heap[w3.heap.size]? = some (.cells #[.int .i64 3, .int .i64 0, .int .i64 0, .int .i64 0, .int .i64 0, .int .i64 0, .int .i64 0, .int .i64 0, .int .i64 0, .int .i64 0, .int .i64 (-1), .bool false, .slice none 0 0, .slice none 0 0] 29 (0, 0)) := by rw [← hW]; exact heap_last w3 _
  have hb4 : Below w3.heap.size w3 W := by rw [← hW]; exact (Below.refl _ _).alloc (Nat.le_refl _) _
  have HB4 := Lib.hid (HB3.out.trans (hb4.mono HB3.out.size))
  rw [hW]
  have HA := Lib.hid hA
  have k0 := block_cells hA
  clear hW hb4 HB3 hA
  go_wp2_with fail
  refine Calls.mono (wpart_any 0 0 0 0 0 0 0 0 0 0 0 0 [] [] [] [] [] [] none none none none none none 0 0 0 0 0 0 W (by simp) (by simp) (by simp) (by simp) (ces_nil _ _) (ces_nil _ _) (ous_nil _ _) (ous_nil _ _) (ous_nil _ _) (ous_nil _ _)) ?_; rintro r w5 ⟨rfl, hb5⟩
  rw [show decide (PaX.mk 0 0 0 0 0 0 (List.map (fun x : CeL => x.1) []) [] [] = PaX.mk 0 0 0 0 0 0 (List.map (fun x : CeL => x.1) []) [] []) = true from decide_eq_true rfl]
  have kA := block_cells (below_block hb5 (block_lt HA.out) HA.out)
  have HB5 := Lib.hid (HB4.out.trans (hb5.mono HB4.out.size))
  clear hb5 HA HB4 k0
  go_wp2_with fail
  refine Calls.mono (wsameCmd_any cmB cmZ none none none none 0 0 0 0 w5 ⟨Nat.zero_le _, Nat.zero_le _⟩ ⟨Nat.zero_le _, Nat.zero_le _⟩ (sps_nil _ _) (wrs_nil _ _) (sps_nil _ _) (wrs_nil _ _)) ?_; rintro r w6 ⟨rfl, hb6⟩
  rw [HNE.out]
  have HB6 := Lib.hid (HB5.out.trans (hb6.mono HB5.out.size))
  clear hb6 HB5 kA
  go_wp2_with fail
  go_ret
  exact ⟨rfl, HB6.out⟩
end Go.Proofs.Ytmhmlpfkdpjlaaa
