import Derived.Test.YtmhmlpfkdpjlaaaWireM
import Derived.Test.YtmhmlpfkdpjlaaaWireD
import Derived.Test.YtmhmlpfkdpjlaaaWireU
import Derived.Test.YtmhmlpfkdpjlaaaWireG
import Derived.Test.YtmhmlpfkdpjlaaaWireV
/- A struct that is stored cell by cell: what the block holds then, whatever its size. -/
namespace Go.Proofs.Ytmhmlpfkdpjlaaa
open Go.ChangeShapes Go.WideShapes Go.ChangeAt Go.RowKit

def putL (g : Nat) : Nat → List Value → World → World
  | _, [], w => w
  | i, v :: vs, w => putL g (i + 1) vs (w.setCell ⟨g, i, none⟩ v)
theorem putL_bel {B g : Nat} {w0 : World} (hg : B ≤ g) : ∀ (vs : List Value) (i : Nat) {w : World}, Below B w0 w → Below B w0 (putL g i vs w)
  | [], _, _, h => h
  | v :: vs, i, _, h => putL_bel hg vs (i + 1) (h.setCell (p := ⟨g, i, none⟩) hg v)
theorem putL_gr {g : Nat} {w0 : World} {row : Option Nat} (hg : w0.heap.size ≤ g) : ∀ (vs : List Value) (i : Nat) {w : World}, w0.grownBy w row → w0.grownBy (putL g i vs w) row
  | [], _, _, h => h
  | v :: vs, i, _, h => putL_gr hg vs (i + 1) (grown_setFar (j := i) (v := v) h hg)
theorem putL_gr' (g : Nat) : ∀ (vs : List Value) (i : Nat) (w : World), w.grownBy (putL g i vs w) (some g)
  | [], _, w => grown_refl w _
  | v :: vs, i, w => grown_trans (grown_set w g i v) (putL_gr' g vs (i + 1) _)
theorem putL_rd {B R g : Nat} {xs : List Int} {bad : Bool} (hg : R < g) : ∀ (vs : List Value) (i : Nat) {w : World}, RdS B w R xs bad → RdS B (putL g i vs w) R xs bad
  | [], _, _, h => h
  | v :: vs, i, _, h => putL_rd hg vs (i + 1) (h.setFar hg v)
theorem putL_far {g k : Nat} (hg : k ≠ g) : ∀ (vs : List Value) (i : Nat) (w : World), (putL g i vs w).heap[k]? = w.heap[k]?
  | [], _, _ => rfl
  | _v :: vs, i, _w => (putL_far hg vs (i + 1) _).trans (Below.heap_setCell _ _ _ _ hg)
theorem putL_size {g : Nat} : ∀ (vs : List Value) (i : Nat) (w : World), (putL g i vs w).heap.size = w.heap.size
  | [], _, _ => rfl
  | v :: vs, i, w => (putL_size vs (i + 1) _).trans (by simp [World.setCell])
theorem putL_aux {g : Nat} {t : TypeId} : ∀ (vs cur pre : List Value) {w : World}, w.heap[g]? = some (.cells (pre ++ cur).toArray t (0, 0)) → vs.length = cur.length → (putL g pre.length vs w).heap[g]? = some (.cells (pre ++ vs).toArray t (0, 0))
  | [], cur, pre, w, h, e => by
    cases cur with
    | nil => exact h
    | cons a b => simp at e
  | v :: vs, [], pre, w, h, e => by simp at e
  | v :: vs, c :: cur, pre, w, h, e => by
    have h1 := cells_setW h pre.length v
    have e2 : (pre ++ c :: cur).toArray.setIfInBounds pre.length v = ((pre ++ [v]) ++ cur).toArray := by
      rw [List.setIfInBounds_toArray]; congr 1
      rw [List.set_append_right _ _ (Nat.le_refl _), Nat.sub_self, List.set_cons_zero, List.append_assoc]; rfl
    rw [e2] at h1
    have h2 := putL_aux vs cur (pre ++ [v]) h1 (by simpa using e)
    rw [List.length_append, List.append_assoc] at h2
    exact h2
theorem putL_at {g : Nat} {w : World} {t : TypeId} {cur : List Value} (h : w.heap[g]? = some (.cells cur.toArray t (0, 0))) (vs : List Value) (hl : vs.length = cur.length) : (putL g 0 vs w).heap[g]? = some (.cells vs.toArray t (0, 0)) :=
  putL_aux vs cur [] h hl
end Go.Proofs.Ytmhmlpfkdpjlaaa
/- Wire: 'begun' of layer 14 tells true. -/
namespace Go.Proofs.Ytmhmlpfkdpjlaaa
open Go.ChangeShapes Go.WideShapes Go.ChangeAt Go.RowKit

def cmZ : CmX := ⟨0, 0, 0, 0, 0, 0, 0, 0, 0, 0, 0, false, [], []⟩
def cmB : CmX := ⟨3, 0, 0, 0, 0, 0, 0, 0, 0, 0, -1, false, [], []⟩
theorem varN_0 : varN 0 = [0] := by rw [varN_small 0 (by omega)]; rfl
theorem encN_0 : encN 0 = [0] := by unfold encN; rw [show (zigI 0).toNat = 0 from rfl, varN_0]
theorem cmZ_len : (encCm cmZ).length = 29 := by
  unfold encCm encHd encSps encWrs encY cmZ
  simp only [List.length_append, List.length_nil, List.flatMap_nil, Int.natCast_zero, encN_0, stampB_len, List.length_cons]
  rfl
theorem varN_s (n : Nat) (h : n < 128) : (varN n).length = 1 := by rw [varN_small n h]; rfl
theorem cmB_len : (encCm cmB).length = 29 := by
  unfold encCm encHd encSps encWrs encY cmB
  have h6 : (encN 3).length = 1 := by unfold encN; rw [show (zigI 3).toNat = 6 from rfl]; exact varN_s 6 (by omega)
  have h1 : (encN (-1)).length = 1 := by unfold encN; rw [show (zigI (-1)).toNat = 1 from rfl]; exact varN_s 1 (by omega)
  simp only [List.length_append, List.length_nil, List.flatMap_nil, Int.natCast_zero, encN_0, stampB_len, List.length_cons, h6, h1]
  rfl
theorem cmZ_f : CmF cmZ := by
  constructor <;> first | (unfold cmZ In64; constructor <;> decide) | (unfold cmZ; simp)
theorem cmB_f : CmF cmB := by
  constructor <;> first | (unfold cmB In64; constructor <;> decide) | (unfold cmB; simp)
theorem sps_nil (w : World) (p : Option Addr) : SpsAt w p [] := fun j hj => absurd hj (by simp)
theorem wrs_nil (w : World) (p : Option Addr) : WrsAt w p [] := fun j hj => absurd hj (by simp)
theorem ces_nil (w : World) (p : Option Addr) : CesAt w p [] := fun j hj => absurd hj (by simp)
theorem ous_nil (w : World) (p : Option Addr) : OusAt w p [] := fun j hj => absurd hj (by simp)
set_option maxRecDepth 100000 in
set_option maxHeartbeats 8000000 in
theorem begun_any (w : World) :
    Calls Try.prog 7 #[] w fun r w' => r = .returned (.bool true) ∧ Below w.heap.size w w' := by
  have HNE : Hid (decide (cmB = cmZ) = false) := by show _ = _; rw [decide_eq_false_iff_not]; intro h; injection h with h1; omega
  go_enter Try.func7, Try.ntmps7
  go_wp2_with fail
  refine Calls.mono (wcmd_any cmZ none none 0 0 w cmZ_f (sps_nil _ _) (wrs_nil _ _) (by rw [cmZ_len]; omega) (Nat.zero_le _) (Nat.zero_le _)) ?_; rintro r w1 ⟨v1, rfl, ho1, hb1⟩
  obtain ⟨p1, c1, rfl, hc1, hc2, -, -⟩ := (Sl.of_own ho1).form
  have HB1 := Lib.hid hb1
  rw [cmZ_len] at hc1 ⊢
  clear ho1 hb1
  go_wp2_with fail
  refine Calls.mono (wcmd_any cmB none none 0 0 w1 cmB_f (sps_nil _ _) (wrs_nil _ _) (by rw [cmB_len]; omega) (Nat.zero_le _) (Nat.zero_le _)) ?_; rintro r w2 ⟨v2, rfl, ho2, hb2⟩
  have HB2 := Lib.hid (HB1.out.trans (hb2.mono HB1.out.size))
  have HS2 := Lib.hid (Sl.of_own ho2)
  clear ho2 hb2 HB1
  go_wp2_with fail
  refine Calls.mono (takeCmd_none cmB v2 w2 cmB_f rfl rfl HS2.out) ?_; rintro r w3 ⟨rfl, hb3⟩
  have HB3 := Lib.hid (HB2.out.trans (hb3.mono HB2.out.size))
  clear hb3 HB2 HS2
  dsimp only [cmB]
  go_upto_region 3 with fail
  obtain ⟨W, hW⟩ : ∃ W : World, w3.alloc (.cells #[.int .i64 3, .int .i64 0, .int .i64 0, .int .i64 0, .int .i64 0, .int .i64 0, .int .i64 0, .int .i64 0, .int .i64 0, .int .i64 0, .int .i64 (-1), .bool false, .slice none 0 0, .slice none 0 0] 29) = W := ⟨_, rfl⟩
  have hA : W.heap[w3.heap.size]? = some (.cells #[.int .i64 3, .int .i64 0, .int .i64 0, .int .i64 0, .int .i64 0, .int .i64 0, .int .i64 0, .int .i64 0, .int .i64 0, .int .i64 0, .int .i64 (-1), .bool false, .slice none 0 0, .slice none 0 0] 29 (0, 0)) := by rw [← hW]; exact heap_last w3 _
  have hb4 : Below w3.heap.size w3 W := by rw [← hW]; exact (Below.refl _ _).alloc (Nat.le_refl _) _
  have HB4 := Lib.hid (HB3.out.trans (hb4.mono HB3.out.size))
  rw [hW]
  have HA := Lib.hid hA
  have k0 := block_cells hA
  clear hW hb4 HB3 hA
  go_wp2_with fail
  refine Calls.mono (wpart_any 0 0 0 0 0 0 0 0 0 0 0 0 [] [] [] [] [] [] none none none none none none 0 0 0 0 0 0 W (by simp) (by simp) (by simp) (by simp) (ces_nil _ _) (ces_nil _ _) (ous_nil _ _) (ous_nil _ _) (ous_nil _ _) (ous_nil _ _)) ?_; rintro r w5 ⟨rfl, hb5⟩
  rw [show decide (PaX.mk 0 0 0 0 0 0 (List.map (fun x : CeL => x.1) []) [] [] = PaX.mk 0 0 0 0 0 0 (List.map (fun x : CeL => x.1) []) [] []) = true from decide_eq_true rfl]
  have kA := block_cells (below_block hb5 (block_lt HA.out) HA.out)
  have HB5 := Lib.hid (HB4.out.trans (hb5.mono HB4.out.size))
  clear hb5 HA HB4 k0
  go_wp2_with fail
  refine Calls.mono (wsameCmd_any cmB cmZ none none none none 0 0 0 0 w5 ⟨Nat.zero_le _, Nat.zero_le _⟩ ⟨Nat.zero_le _, Nat.zero_le _⟩ (sps_nil _ _) (wrs_nil _ _) (sps_nil _ _) (wrs_nil _ _)) ?_; rintro r w6 ⟨rfl, hb6⟩
  rw [HNE.out]
  have HB6 := Lib.hid (HB5.out.trans (hb6.mono HB5.out.size))
  clear hb6 HB5 kA
  go_wp2_with fail
  go_ret
  exact ⟨rfl, HB6.out⟩
end Go.Proofs.Ytmhmlpfkdpjlaaa
