import Derived.Test.YtjaabakobpabjaaProg
import Derived.Deep.RegionHeld
import Derived.WalkKit
import Derived.Test.YtjaabakobpabjaaWireA
import Derived.Deep.RegionHeld3
/- Regions walked operation by operation: the class of worlds may be made narrower as the walk goes on. -/
namespace Go.Proofs.Ytjaabakobpabjaa
open Go.RowKit

theorem wpAnyH_sub {P : Program} {md : Region.Mode} {ops : Array Oper} {Q : Exit → Act → World → Prop} {S S' : World → Prop} (h : ∀ w, S' w → S w) :
    ∀ {fuel : Nat} {listed : Array Bool} {a : Act} {w : World}, wpAnyH P md ops Q S' fuel listed a w → wpAnyH P md ops Q S fuel listed a w
  | 0, _, _, _, hh => hh
  | _ + 1, _, _, _, hh => ⟨hh.1, fun i hi => wpOp_mono (fun _ _ hx => ⟨h _ hx.1, wpAnyH_sub h hx.2⟩) (hh.2 i hi)⟩
end Go.Proofs.Ytjaabakobpabjaa
/- Wire: how numbers, texts, truths, stamps and attempts are laid behind bytes: package wire's and the reference's. -/
namespace Go.Proofs.Ytjaabakobpabjaa
open Go.ChangeShapes Go.WideShapes Go.ChangeAt Go.RowKit

def TxtsAt (w : World) (p : Option Addr) (ss : List ByteArray) : Prop := ∀ j, (hj : j < ss.length) → ∃ g o, p = some ⟨g, o, none⟩ ∧ g < w.heap.size ∧ w.cell? ⟨g, o + j, none⟩ = some (.string ss[j])
theorem TxtsAt.keep {w w' : World} {p : Option Addr} {ss : List ByteArray} (h : TxtsAt w p ss) {B : Nat} (hb : Below B w w') (hB : w.heap.size ≤ B) : TxtsAt w' p ss := fun j hj => by
  obtain ⟨g, o, e, hg, h1⟩ := h j hj
  exact ⟨g, o, e, Nat.lt_of_lt_of_le hg hb.size, (hb.cell (p := ⟨g, o + j, none⟩) (by show g < B; omega)).trans h1⟩
/-- An append in place: what is below the row's base stays. -/
theorem wend_grown {base : Nat} {w w1 w2 : World} {v v2 : Value} {xs ys : List Int} (hb1 : Below w.heap.size w w1) (_ho1 : w1.ownsRow base 5 1 v xs.length (byt xs)) (hg : w1.grownBy w2 v.ownBlock) (ho2 : w2.ownsRow base 5 1 v2 (xs.length + ys.length) (byt xs ++ byt ys)) :
    w2.ownsRow base 5 1 v2 (xs ++ ys).length (byt (xs ++ ys)) ∧ w.grownBy w2 v.ownBlock := by
  refine ⟨by rw [List.length_append, ← byt_app]; exact ho2, ?_⟩
  exact ⟨hg.os.trans hb1.os, hg.tape.trans hb1.tape, hg.output.trans hb1.output, Nat.le_trans hb1.size hg.size, fun k hk hn => (hg.block k (Nat.lt_of_lt_of_le hk hb1.size) hn).trans (hb1.block k hk)⟩
theorem sl_oneW {w : World} {g : Nat} {x : Int} {t : TypeId} (h : w.heap[g]? = some (.cells #[.int .u8 x] t (0, 0))) : Sl (g + 1) w (.slice (some ⟨g, 0, none⟩) 1 1) 1 [x].length (byt [x]) :=
  ⟨rfl, .inr ⟨_, 1, rfl, Nat.le_refl _, by unfold maxLen; decide, fun _ => ⟨g, 0, rfl, Nat.lt_succ_self _, fun j hj => by
    obtain rfl : j = 0 := by simp at hj; omega
    rw [block_cells h]; rfl⟩⟩⟩
set_option maxHeartbeats 1000000 in
theorem rn_any (base : Nat) (v : Value) (xs : List Int) (x : Int) (w : World) (ho : w.ownsRow base 5 1 v xs.length (byt xs)) (_hB : base ≤ w.heap.size) (hx : In64 x) (hb : (xs.length : Int) ≤ 140737488350000) :
    Calls Try.prog 76 #[v, .int .i64 x] w (WEnd w.heap.size w.heap.size w (xs ++ encN x)) := by
  have HVA := Lib.hid (refVar_any w.heap.size _ xs (zigI x) w (Sl.of_own ho) (Nat.le_refl _) (by omega) (zigI_fit hx).1 (zigI_fit hx).2)
  have HZ := Lib.hid (refZig_any x w hx.1 hx.2)
  go_enter Try.func76, Try.ntmps76
  go_wp2_with fail
  refine HZ.out.mono ?_; rintro e w' ⟨rfl, rfl⟩
  go_wp2_with fail
  refine HVA.out.mono ?_; rintro e w2 ⟨v2, rfl, ho2, hb2⟩
  have HO2 := Lib.hid ho2
  clear ho2
  go_wp2_with fail
  go_ret
  exact ⟨_, rfl, HO2.out, hb2⟩
end Go.Proofs.Ytjaabakobpabjaa
/- Wire: the reference's bytes of a command. -/
namespace Go.Proofs.Ytjaabakobpabjaa
open Go.ChangeShapes Go.WideShapes Go.ChangeAt Go.RowKit

def SpsAt (w : World) (p : Option Addr) (L : List SpX) : Prop := ∀ j, (hj : j < L.length) → ∃ g o, p = some ⟨g, o, none⟩ ∧ g < w.heap.size ∧ w.cell? ⟨g, o + j * 2, none⟩ = some (.string L[j].lo) ∧ w.cell? ⟨g, o + j * 2 + 1, none⟩ = some (.string L[j].hi)
theorem SpsAt.keep {w w' : World} {p : Option Addr} {L : List SpX} (h : SpsAt w p L) {B : Nat} (hb : Below B w w') (hB : w.heap.size ≤ B) : SpsAt w' p L := fun j hj => by
  obtain ⟨g, o, e, hg, h1, h2⟩ := h j hj
  exact ⟨g, o, e, Nat.lt_of_lt_of_le hg hb.size, (hb.cell (p := ⟨g, o + j * 2, none⟩) (by show g < B; omega)).trans h1, (hb.cell (p := ⟨g, o + j * 2 + 1, none⟩) (by show g < B; omega)).trans h2⟩
def WrsAt (w : World) (p : Option Addr) (L : List WrX) : Prop := ∀ j, (hj : j < L.length) → ∃ g o, p = some ⟨g, o, none⟩ ∧ g < w.heap.size ∧ w.cell? ⟨g, o + j * 3, none⟩ = some (.string L[j].k) ∧ w.cell? ⟨g, o + j * 3 + 1, none⟩ = some (.bool L[j].r) ∧ w.cell? ⟨g, o + j * 3 + 2, none⟩ = some (.string L[j].d)
theorem WrsAt.keep {w w' : World} {p : Option Addr} {L : List WrX} (h : WrsAt w p L) {B : Nat} (hb : Below B w w') (hB : w.heap.size ≤ B) : WrsAt w' p L := fun j hj => by
  obtain ⟨g, o, e, hg, h1, h2, h3⟩ := h j hj
  exact ⟨g, o, e, Nat.lt_of_lt_of_le hg hb.size, (hb.cell (p := ⟨g, o + j * 3, none⟩) (by show g < B; omega)).trans h1, (hb.cell (p := ⟨g, o + j * 3 + 1, none⟩) (by show g < B; omega)).trans h2, (hb.cell (p := ⟨g, o + j * 3 + 2, none⟩) (by show g < B; omega)).trans h3⟩
theorem own_oneW (w : World) (x : Int) : (w.alloc (.cells #[.int .u8 x] 5)).ownsRow w.heap.size 5 1 (.slice (some ⟨w.heap.size, 0, none⟩) 1 1) [x].length (byt [x]) :=
  ⟨rfl, .inr ⟨w.heap.size, 1, _, rfl, Nat.le_refl _, heap_last w _, Nat.le_refl _, by unfold maxLen; decide, rfl, rfl⟩⟩
end Go.Proofs.Ytjaabakobpabjaa
