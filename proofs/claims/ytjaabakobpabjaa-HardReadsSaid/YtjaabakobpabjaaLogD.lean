import Derived.Test.YtjaabakobpabjaaPlainMade
import Derived.Laws.CopyOwn
import Derived.Laws.BytesArg
import Derived.Deep.RegionLaw
import Derived.Deep.AppendLies
import Derived.Deep.Onto
/- What the statements lean on: a twin of bytes with spare room behind it, and whether it was kept. -/
namespace Go.Proofs.Ytjaabakobpabjaa
open Go.ChangeShapes Go.WideShapes Go.ChangeAt Go.RowKit

theorem row_cell {w : World} {g : Nat} {L : List Value} {t : TypeId} (h : w.heap[g]? = some (.cells L.toArray t (0, 0))) (j : Nat) : w.cell? ⟨g, j, none⟩ = L[j]? := by
  rw [cell_of_row w g j L.toArray t (0, 0) h]; simp
theorem row_free {w : World} {g : Nat} {L : List Value} {t : TypeId} (h : w.heap[g]? = some (.cells L.toArray t (0, 0))) (j : Nat) : w.frozen? ⟨g, j, none⟩ = false := frozen_of_row w g j _ t h
theorem row_set {w : World} {g : Nat} {L : List Value} {t : TypeId} (h : w.heap[g]? = some (.cells L.toArray t (0, 0))) (j : Nat) (v : Value) : (w.setCell ⟨g, j, none⟩ v).heap[g]? = some (.cells (L.set j v).toArray t (0, 0)) := by
  simp [World.setCell, Array.getElem?_modify, h]
theorem set_take {α : Type} (L : List α) (i : Nat) (v : α) (h : i < L.length) : (L.set i v).take (i + 1) = L.take i ++ [v] := by
  rw [List.take_set, List.take_succ_eq_append_getElem h, List.set_append_right _ _ (by rw [List.length_take]; omega), List.length_take, Nat.min_eq_left (Nat.le_of_lt h), Nat.sub_self]
  rfl
/-- A row of the call's own that is as long as its room: its block, whole. -/
theorem full_row {w : World} {base : Nat} {e : TypeId} {g n : Nat} {xs : List Value} (h : w.ownsRow base e 1 (.slice (some ⟨g, 0, none⟩) n n) n xs) : base ≤ g ∧ w.heap[g]? = some (.cells xs.toArray e (0, 0)) ∧ xs.length = n := by
  obtain ⟨h1, h2⟩ := h
  rcases h2 with ⟨h2, _⟩ | ⟨g', cap, cur, h2, hb, hg, hn, hm, hs, ht⟩
  · simp at h2
  · simp only [Value.slice.injEq, Option.some.injEq, Addr.mk.injEq, and_true, true_and] at h2
    obtain ⟨rfl, rfl⟩ := h2
    refine ⟨hb, ?_, by simpa using h1⟩
    rw [hg, ← ht, List.take_of_length_le (by simp; omega)]

/-- A twin: a new row, the bytes and three more. -/
def TwinOf (w : World) (xs : List Int) (e : Ending) (w' : World) : Prop :=
  ∃ g, e = .returned (.slice (some ⟨g, 0, none⟩) xs.length (xs.length + 3)) ∧ w.heap.size ≤ g ∧ w'.heap[g]? = some (.cells (byt (xs ++ [229, 229, 229])).toArray 5 (0, 0)) ∧ Below w.heap.size w w'

theorem Sl.adds {B : Nat} {w : World} {a : Option Addr} {n cap : Nat} {xs : List Value} (h : Sl B w (.slice a n cap) 1 n xs) (hn : 0 < n) : ∃ ad, a = some ad ∧ ∀ j v, xs[j]? = some v → w.cell? (ad.add j) = some v := by
  obtain ⟨h1, h2⟩ := h
  rcases h2 with ⟨h2, rfl⟩ | ⟨ad, cap', h2, h3, h4, h5⟩
  · omega
  · simp only [Value.slice.injEq] at h2
    obtain ⟨rfl, -, rfl⟩ := h2
    obtain ⟨g, o, rfl, h6, h7⟩ := h5 hn
    refine ⟨_, rfl, fun j v hv => ?_⟩
    rw [add_plain, h7 j (by rw [← h1]; exact (List.getElem?_eq_some_iff.1 hv).1)]; exact hv

set_option maxRecDepth 100000 in
set_option maxHeartbeats 2000000 in
theorem twin_any (B : Nat) (v : Value) (xs : List Int) (w : World) (hs : Sl B w v 1 xs.length (byt xs)) (hB : B ≤ w.heap.size) (hb : (xs.length : Int) ≤ 140737488355320) :
    Calls Try.prog 27 #[v] w (TwinOf w xs) := by
  obtain ⟨i0, hi, hz0, hz1, hz2⟩ := info_parts Try.infoU8
  have HS := Lib.hid hs
  obtain ⟨a, cap, rfl, h1, h2, h3, -⟩ := hs.form
  have HA := Lib.hid h3
  clear hs h3
  obtain ⟨n, hn⟩ : ∃ n, n = xs.length := ⟨_, rfl⟩
  rw [← hn] at hb h1 ⊢
  rw [← hn] at HS
  have HN := Lib.hid hn
  clear hn
  unfold maxLen at h2
  go_enter Try.func27, Try.ntmps27
  go_wp2_with (at_make; refine wpList_make_full _ rfl _ _ 32 rfl w.heap.size 5 i0 (.int .u8 0) 1 Try.underlying32 hi hz0 hz1 .i64 .i64 ((n : Int) + 3) ((n : Int) + 3) (n + 3) rfl rfl rfl rfl ?c1 ?c2 ?c3 ?_)
  case c1 => rw [hz2]; omega
  case c2 => unfold maxLen; omega
  case c3 => exact Nat.le_refl _
  intro w1 hown hgrow
  have hb1 : Below w.heap.size w w1 := (Below.refl _ _).grown hgrow (Nat.le_refl _) (fun k h => by cases h)
  obtain ⟨-, hrow, hlen⟩ := full_row hown
  obtain ⟨Z, hZ⟩ : ∃ Z, (madeCells #[Value.int .u8 0] (n + 3)).toList = Z := ⟨_, rfl⟩
  rw [hZ] at hrow hlen
  have HR := Lib.hid hrow
  have HL := Lib.hid hlen
  have HS1 := Lib.hid (HS.out.keep (hb1.mono hB))
  clear hown hgrow hrow hlen hZ
  go_wp2_with (with_reducible refine wpList_copy_splice rfl (.tmp 9) (.tmp 10) 32 32 rfl 5 Try.underlying32 ?d0 _ _ _ _ _ _ rfl rfl w.heap.size 0 Z 5 HR.out (byt xs) ?d1 ?d2 ?d3 (byt_one _) w.heap.size w hb1 (Nat.le_refl _) ?_)
  case d0 => kernel_rfl
  case d1 => rw [byt_len, ← HN.out]; show n = min n (n + 3); omega
  case d2 =>
    intro hpos
    obtain ⟨ad, rfl, hh⟩ := HS1.out.adds (by rw [byt_len, ← HN.out] at hpos; exact hpos)
    first | exact ⟨rfl, ad, rfl, hh⟩ | exact ⟨ad, rfl, hh⟩
  case d3 => rw [byt_len, HL.out, ← HN.out]; omega
  intro w2 hrow2 hb2
  obtain ⟨L, hL⟩ : ∃ L, splice Z 0 (byt xs) = L := ⟨_, rfl⟩
  have hlen : L.length = n + 3 := by rw [← hL, length_splice _ _ _ (by rw [byt_len, HL.out, ← HN.out]; omega), HL.out]
  have htake : L.take n = byt xs := by rw [← hL]; simp [splice, byt_len, ← HN.out]
  rw [hL] at hrow2
  have HT := Lib.hid htake
  have HLL := Lib.hid hlen
  clear hL htake hlen HL HR HS1
  go_wp2_with fail
  go_loopw [4] (fun i wr => ∃ (k : Nat) (M : List Value), k ≤ 3 ∧ i = .int .i64 (n + k) ∧ Hid (wr.heap[w.heap.size]? = some (.cells M.toArray 5 (0, 0)) ∧ M.length = n + 3 ∧ M.take (n + k) = byt (xs ++ List.replicate k 229)) ∧ Below w.heap.size w wr) (fun i _ => n + 3 - (intOf i).toNat)
  case atStart => exact ⟨0, L, by omega, by go_num, ⟨hrow2.out, HLL.out, by simpa using HT.out⟩, hb2⟩
  case round =>
    obtain ⟨k, M, hk, rfl, HM, hb'⟩ := hrel
    have hsz := hb'.size
    by_cases hlt : k < 3
    · have hcell := row_cell HM.out.1 (n + k)
      have hfree := row_free HM.out.1 (n + k)
      obtain ⟨x, hx⟩ : ∃ x, M[n + k]? = some x := ⟨M[n + k]'(by rw [HM.out.2.1]; omega), List.getElem?_eq_getElem _⟩
      rw [hx] at hcell
      have HB := Lib.hid (hb'.setCell (p := ⟨w.heap.size, n + k, none⟩) (Nat.le_refl _) (.int .u8 229))
      have HM' : Hid ((wr.setCell ⟨w.heap.size, n + k, none⟩ (.int .u8 229)).heap[w.heap.size]? = some (.cells (M.set (n + k) (.int .u8 229)).toArray 5 (0, 0)) ∧ (M.set (n + k) (.int .u8 229)).length = n + 3 ∧ (M.set (n + k) (.int .u8 229)).take (n + (k + 1)) = byt (xs ++ List.replicate (k + 1) 229)) := by
        refine ⟨row_set HM.out.1 _ _, by rw [List.length_set]; exact HM.out.2.1, ?_⟩
        rw [← Nat.add_assoc, set_take M (n + k) _ (by rw [HM.out.2.1]; omega), HM.out.2.2, List.replicate_succ', ← List.append_assoc]; simp [byt]
      clear hx HM hb'
      go_wp2_with fail
      go_roundw
      case rel => exact ⟨k + 1, _, by omega, by go_num, HM', HB.out⟩
      case measure => simp [intOf]; omega
    · obtain rfl : k = 3 := by omega
      have hfin : M = byt (xs ++ [229, 229, 229]) := by have := HM.out.2.2; rw [List.take_of_length_le (by rw [HM.out.2.1]; omega)] at this; exact this
      have HF := Lib.hid hfin
      clear hfin
      go_wp2_with fail
      go_ret
      exact ⟨_, by rw [← HN.out]; rfl, Nat.le_refl _, by rw [← HF.out]; exact HM.out.1, hb'⟩
end Go.Proofs.Ytjaabakobpabjaa
/- Bytes as a text; whether a twin was kept. -/
namespace Go.Proofs.Ytjaabakobpabjaa
open Go.ChangeShapes Go.WideShapes Go.ChangeAt Go.RowKit

section
variable {P : Program} {w : World}
/-- Bytes of whatever slice, as a text. -/
theorem run_convert_sl {B : Nat} {v : Value} {xs : List Int} (hsl : Sl B w v 1 xs.length (byt xs)) (src e : TypeId) (hs : P.underlying src = some (.slice e)) (he : P.underlying e = some (.int .u8)) (dst : TypeId) (hd : P.underlying dst = some .string) :
    (convert src dst v).run P w = .ok (.string (strOfNums xs)) w := by
  rcases hsl.2 with ⟨rfl, h0⟩ | ⟨ad, cap, rfl, h1, h2, h3⟩
  · have : xs = [] := List.eq_nil_of_length_eq_zero h0
    subst this
    exact run_convert_bytes_nil w src e hs he 0 0 dst hd
  · by_cases h0 : 0 < xs.length
    · obtain ⟨g, o, rfl, h4, h5⟩ := h3 h0
      refine run_convert_bytes_arg w src e hs he g o xs.length cap xs rfl (fun i hi => ?_) dst hd
      rw [h5 i (by omega)]; simp [byt, hi, List.getD]
    · have : xs = [] := List.eq_nil_of_length_eq_zero (by omega)
      subst this
      rw [run_convert_bytes_string w src dst e _ _ cap hs he hd]
      have hl : (loadCells ad 0).run P w = .ok #[] w := by unfold loadCells loadCellsFrom; rfl
      rw [show ([] : List Int).length = 0 from rfl, run_bytesToString w _ 0 cap [] (by simpa using hl)]
      rfl
end

/-- A slice over a row that starts it. -/
theorem sl_row {w : World} {g n cap : Nat} {L : List Value} {t : TypeId} {xs : List Value} (h : w.heap[g]? = some (.cells L.toArray t (0, 0))) (hp : L.take n = xs) (hn : n ≤ L.length) (hc : n ≤ cap) (hm : cap ≤ maxLen) : Sl w.heap.size w (.slice (some ⟨g, 0, none⟩) n cap) 1 n xs := by
  refine ⟨by rw [← hp, List.length_take]; omega, .inr ⟨_, cap, rfl, hc, hm, fun _ => ⟨g, 0, rfl, (Array.getElem?_eq_some_iff.1 h).1, fun j hj => ?_⟩⟩⟩
  rw [Nat.zero_add, row_cell h j, ← hp, List.getElem?_take, if_pos (by omega)]

set_option maxRecDepth 100000 in
set_option maxHeartbeats 2000000 in
theorem kept_any (B : Nat) (v : Value) (xs : List Int) (g : Nat) (w : World) (hs : Sl B w v 1 xs.length (byt xs)) (hb : (xs.length : Int) ≤ 140737488355320)
    (hrow : w.heap[g]? = some (.cells (byt (xs ++ [229, 229, 229])).toArray 5 (0, 0))) :
    Calls Try.prog 35 #[.slice (some ⟨g, 0, none⟩) xs.length (xs.length + 3), v] w fun e w' => e = .returned (.bool true) ∧ w = w' := by
  have hx : Sl w.heap.size w (.slice (some ⟨g, 0, none⟩) xs.length (xs.length + 3)) 1 xs.length (byt xs) := sl_row hrow (by simp [byt]) (by simp [byt]) (by omega) (by unfold maxLen; omega)
  have k1 := run_convert_sl (P := Try.prog) hx 32 5 Try.underlying32 Try.underlying5 9 Try.underlying9
  have k2 := run_convert_sl (P := Try.prog) hs 32 5 Try.underlying32 Try.underlying5 9 Try.underlying9
  obtain ⟨s, hstr⟩ : ∃ s, strOfNums xs = s := ⟨_, rfl⟩
  rw [hstr] at k1 k2
  have HC : Hid (∀ k, k < 3 → w.cell? ⟨g, xs.length + k, none⟩ = some (.int .u8 229)) := fun k hk => by
    rw [row_cell hrow, byt, List.getElem?_map, List.getElem?_append_right (by omega)]
    have : k = 0 ∨ k = 1 ∨ k = 2 := by omega
    rcases this with rfl | rfl | rfl <;> simp
  obtain ⟨a, cap, rfl, h1, h2, -, -⟩ := hs.form
  clear hx hrow hs hstr
  obtain ⟨n, hn⟩ : ∃ n, n = xs.length := ⟨_, rfl⟩
  rw [← hn] at hb h1 k1 k2 ⊢
  rw [← hn] at HC
  clear hn
  unfold maxLen at h2
  go_enter Try.func35, Try.ntmps35
  go_wp2_with fail
  go_loop [6] (fun i => ∃ k : Nat, k ≤ 3 ∧ i = .int .i64 (n + k)) (fun i => n + 3 - (intOf i).toNat)
  case atStart => exact ⟨0, by omega, by go_num⟩
  case round =>
    obtain ⟨k, hk, rfl⟩ := hrel
    by_cases hlt : k < 3
    · have hcell := HC.out k hlt
      go_wp2_with fail
      go_round
      case rel => exact ⟨k + 1, by omega, by go_num⟩
      case measure => simp [intOf]; omega
    · obtain rfl : k = 3 := by omega
      go_wp2_with fail
      go_ret
      exact ⟨rfl, rfl⟩
end Go.Proofs.Ytjaabakobpabjaa
/- The law's own logs. -/
namespace Go.Proofs.Ytjaabakobpabjaa
open Go.ChangeShapes Go.WideShapes Go.ChangeAt Go.RowKit

theorem Try.infoEn : (Try.prog.info? 85).map (fun i => (i.zero, i.size, i.bytes)) = some (some (.agg #[.int .i64 0, .int .i64 0, .string ⟨#[]⟩, .int .u16 0, .int .u16 0, .int .u16 0, .int .i64 0, .int .i64 0, .int .u16 0, .int .u16 0, .int .u16 0, .int .i64 0, .int .i64 0, .bool false]), 14, 88) := by kernel_rfl
theorem own_belowL {B : Nat} {w w' : World} {base : Nat} {e : TypeId} {size : Nat} {v : Value} {n : Nat} {xs : List Value} (h : w.ownsRow base e size v n xs) (hb : Below B w w') (hB : w.heap.size ≤ B) : w'.ownsRow base e size v n xs :=
  h.kept (row := none) ⟨hb.os, hb.tape, hb.output, hb.size, fun k hk _ => hb.block k (by omega)⟩ (by cases v.ownBlock <;> simp)
theorem own_geL {w : World} {base : Nat} {e : TypeId} {size : Nat} {v : Value} {n : Nat} {xs : List Value} (h : w.ownsRow base e size v n xs) : ∀ k, v.ownBlock = some k → base ≤ k ∧ k < w.heap.size := by
  intro k hk
  rcases h.2 with ⟨h3, h4⟩ | ⟨g, cap, cur, hv, hb, hg, -⟩
  · subst h3; simp [Value.ownBlock] at hk
  · subst hv
    have hkg : g = k := by simpa [Value.ownBlock] using hk
    subst hkg
    exact ⟨hb, block_lt hg⟩
theorem grown_setL {a w : World} {C : Nat} (h : a.grownBy w (some C)) (j : Nat) (v : Value) : a.grownBy (w.setCell ⟨C, j, none⟩ v) (some C) :=
  ⟨h.os, h.tape, h.output, by simpa [World.setCell] using h.size, fun k hk hne => (Below.heap_setCell _ _ _ _ (fun e => hne (by rw [e]))).trans (h.block k hk hne)⟩
theorem grown_reflL (w : World) (row : Option Nat) : w.grownBy w row := ⟨rfl, rfl, rfl, Nat.le_refl _, fun _ _ _ => rfl⟩
theorem put14_grown (w : World) (C : Nat) (x0 x1 x2 x3 x4 x5 x6 x7 x8 x9 x10 x11 x12 x13 : Value) : w.grownBy (put14 w C x0 x1 x2 x3 x4 x5 x6 x7 x8 x9 x10 x11 x12 x13) (some C) :=
  grown_setL (grown_setL (grown_setL (grown_setL (grown_setL (grown_setL (grown_setL (grown_setL (grown_setL (grown_setL (grown_setL (grown_setL (grown_setL (grown_setL (grown_reflL w _) 0 x0) 1 x1) 2 x2) 3 x3) 4 x4) 5 x5) 6 x6) 7 x7) 8 x8) 9 x9) 10 x10) 11 x11) 12 x12) 13 x13
theorem own_farL {w w' : World} {base : Nat} {e : TypeId} {size : Nat} {v : Value} {n : Nat} {xs : List Value} {C : Nat} (h : w.ownsRow base e size v n xs) (hg : w.grownBy w' (some C)) (hC : C < base) : w'.ownsRow base e size v n xs := by
  refine h.kept hg ?_
  cases hv : v.ownBlock with
  | none => exact .inl rfl
  | some g => right; intro he; have := (own_geL h g hv).1; simp only [Option.some.injEq] at he; omega
/-- A log in a memory of its own. -/
def LgEnd (B : Nat) (w : World) (m : Lg) (r : Ending) (w' : World) : Prop :=
  ∃ p c, r = .returned (.agg #[.int .i64 m.b, .int .i64 m.bt, .int .u16 m.j.ov, .int .u16 m.j.ox, .int .u16 m.j.ol, .int .i64 m.j.oe, .int .i64 m.j.ok, .int .u16 m.j.nv, .int .u16 m.j.nx, .int .u16 m.j.nl, .int .i64 m.j.ne, .int .i64 m.j.nk, .bool m.j.two, .slice p m.es.length c]) ∧ w'.ownsRow B 85 14 (.slice p m.es.length c) m.es.length (entRow m.es) ∧ Below w.heap.size w w'
end Go.Proofs.Ytjaabakobpabjaa
