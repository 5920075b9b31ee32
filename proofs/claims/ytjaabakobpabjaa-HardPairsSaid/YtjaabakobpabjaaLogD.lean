import Derived.Test.YtjaabakobpabjaaCalm
import Derived.Test.YtjaabakobpabjaaCalmTail
import Derived.Test.YtjaabakobpabjaaLogB
import Derived.Test.YtjaabakobpabjaaProg
import Derived.BigQuiet
import Derived.Deep.QuietTactic
import Derived.Lib.Hide
import Derived.IntWalk
import Derived.Outline
import Derived.Lib.Tables
import Derived.Lib.BitFns
import Derived.Laws.CopyOwn
import Derived.Laws.BytesArg
import Derived.Deep.RegionLaw
import Derived.Deep.AppendLies
import Derived.Deep.Onto
/- Logs: the plain law: which log is newer. -/
namespace Go.Proofs.Ytjaabakobpabjaa

def lastTerm (l : Lg) : Int := (termL l l.last).1
end Go.Proofs.Ytjaabakobpabjaa
/- entries: Newer; the reference's. -/
namespace Go.Proofs.Ytjaabakobpabjaa
open Go.ChangeShapes Go.WideShapes Go.ChangeAt Go.RowKit

/-- A log that may be. -/
structure LgFit (l : Lg) : Prop where
  b0 : 0 ≤ l.b
  b1 : l.b ≤ 1152921504606846976
  n : l.es.length ≤ 1000000
theorem LgFit.last0 {l : Lg} (h : LgFit l) : -9223372036854775808 ≤ l.last ∧ l.last ≤ 9223372036854775807 := by
  have := h.b0; have := h.b1; have := h.n; unfold Lg.last; omega
section
variable (l : Lg) (p : Option Addr) (c : Nat)
theorem term_is (w : World) (hf : LgFit l) {i : Int} (hi : -9223372036854775808 ≤ i ∧ i ≤ 9223372036854775807) (hE : EnSl w (.slice p l.es.length c) l.es) :
    Calls Try.prog 41 #[.agg #[.int .i64 l.b, .int .i64 l.bt, .int .u16 l.j.ov, .int .u16 l.j.ox, .int .u16 l.j.ol, .int .i64 l.j.oe, .int .i64 l.j.ok, .int .u16 l.j.nv, .int .u16 l.j.nx, .int .u16 l.j.nl, .int .i64 l.j.ne, .int .i64 l.j.nk, .bool l.j.two, .slice p l.es.length c], .int .i64 i] w fun r w' => r = .returned (.tuple #[.int .i64 (termL l i).1, .bool (termL l i).2]) ∧ Below w.heap.size w w' :=
  term_any l p c i w hf.b0 hf.b1 hf.n hi.1 hi.2 hE rfl
theorem rterm_is (w : World) (hf : LgFit l) {i : Int} (hi : -9223372036854775808 ≤ i ∧ i ≤ 9223372036854775807) (hE : EnSl w (.slice p l.es.length c) l.es) :
    Calls Try.prog 48 #[.agg #[.int .i64 l.b, .int .i64 l.bt, .int .u16 l.j.ov, .int .u16 l.j.ox, .int .u16 l.j.ol, .int .i64 l.j.oe, .int .i64 l.j.ok, .int .u16 l.j.nv, .int .u16 l.j.nx, .int .u16 l.j.nl, .int .i64 l.j.ne, .int .i64 l.j.nk, .bool l.j.two, .slice p l.es.length c], .int .i64 i] w fun r w' => r = .returned (.tuple #[.int .i64 (termL l i).1, .bool (termL l i).2]) ∧ Below w.heap.size w w' :=
  rterm_any l p c i w hf.b0 hf.b1 hf.n hi.1 hi.2 hE rfl
end
end Go.Proofs.Ytjaabakobpabjaa
/- Contracts of package bits: bytes laid behind bytes. -/
namespace Go.Proofs.Ytjaabakobpabjaa
open Go.RowKit

theorem Try.infoU8 : (Try.prog.info? 5).map (fun i => (i.zero, i.size, i.bytes)) = some (some (.int .u8 0), 1, 1) := by kernel_rfl
/-- Bytes as cells. -/
def byt (xs : List Int) : List Value := xs.map (.int .u8)
theorem byt_len (xs : List Int) : (byt xs).length = xs.length := by simp [byt]
theorem byt_app (xs ys : List Int) : byt xs ++ byt ys = byt (xs ++ ys) := by simp [byt]
theorem byt_one (xs : List Int) : ∀ u ∈ byt xs, u.oneCell' = true := by intro u hu; simp [byt] at hu; obtain ⟨x, _, rfl⟩ := hu; rfl

set_option maxHeartbeats 1000000 in
theorem room_any (B : Nat) (v : Value) (xs : List Int) (n : Int) (w : World) (hs : Sl B w v 1 xs.length (byt xs)) (hB : B ≤ w.heap.size) (hn : 0 ≤ n) (hb : (xs.length : Int) + n ≤ 140737488355328) :
    Calls Try.prog 87 #[v, .int .i64 n] w fun e w' => ∃ v', e = .returned v' ∧ w'.ownsRow w.heap.size 5 1 v' xs.length (byt xs) ∧ Below w.heap.size w w' := by
  obtain ⟨i0, hi, hz0, hz1, hz2⟩ := info_parts Try.infoU8
  have hs0 := hs
  obtain ⟨a, cap, rfl, h1, h2, h3, -⟩ := hs.form
  clear hs
  have HS := Lib.hid hs0; clear hs0 h3
  go_enter Try.func87, Try.ntmps87
  go_wp2_with (at_make; refine wpList_make_own _ rfl _ _ 32 rfl w.heap.size 5 i0 (.int .u8 0) 1 Try.underlying32 hi hz0 hz1 .i64 .i64 ((xs.length : Int) + n) (xs.length + n.toNat) rfl rfl ?c1 ?c2 ?c3 ?c4 ?_)
  case c1 => omega
  case c2 => rw [hz2]; omega
  case c3 => unfold maxLen; omega
  case c4 => exact Nat.le_refl _
  intro w1 hown hgrow
  have hb1 : Below w.heap.size w w1 := (Below.refl _ _).grown hgrow (Nat.le_refl _) (fun k h => by cases h)
  have HS1 := Lib.hid (HS.out.keep (hb1.mono hB))
  have hsz := hb1.size
  clear HS
  go_wp2_with (at_builtin; refine wpList_append_sl rfl _ _ 32 rfl w.heap.size 5 i0 (.int .u8 0) 1 1 Try.underlying32 hi hz0 hz1 hz2 rfl (by decide) _ 0 [] rfl hown B _ xs.length (byt xs) rfl HS1.out (byt_one _) ?d1 ?d2 ?d3 ?_)
  case d1 => unfold maxLen; omega
  case d2 => omega
  case d3 => exact hsz
  intro v' w2 hown2 hgrow2
  have hb2 : Below w.heap.size w w2 := hb1.grown hgrow2 hsz (fun k h => (hown.lt k h).1)
  clear hgrow hgrow2 hown HS1
  go_wp2
  go_ret
  exact ⟨v', rfl, hown2, hb2⟩
end Go.Proofs.Ytjaabakobpabjaa
/- Parts of slices of bytes. -/
namespace Go.Proofs.Ytjaabakobpabjaa
open Go.ChangeShapes Go.WideShapes Go.ChangeAt Go.RowKit

/-- A part of a slice. -/
theorem part_len {xs : List Int} {m q : Nat} (hm : m + q ≤ xs.length) : ((xs.drop m).take q).length = q := by rw [List.length_take, List.length_drop]; omega
theorem Sl.part {B : Nat} {w : World} {p : Option Addr} {cap m q q' : Nat} {xs : List Int} (h : Sl B w (.slice p xs.length cap) 1 xs.length (byt xs)) (hm : m + q ≤ xs.length) (hq' : q' = q) : Sl B w (.slice (Option.map (fun x => x.add m) p) q' (cap - m)) 1 ((xs.drop m).take q).length (byt ((xs.drop m).take q)) := by
  rw [hq']
  have hlen := part_len hm
  rw [hlen]
  refine ⟨by rw [byt_len, hlen]; omega, ?_⟩
  rcases h.2 with ⟨h2, h3⟩ | ⟨ad, cap', h2, h3, h4, h5⟩
  · simp only [Value.slice.injEq] at h2
    obtain ⟨rfl, h2, rfl⟩ := h2
    obtain rfl : q = 0 := by omega
    exact .inl ⟨by simp, rfl⟩
  · simp only [Value.slice.injEq] at h2
    obtain ⟨rfl, -, rfl⟩ := h2
    refine .inr ⟨ad.add m, cap - m, rfl, by omega, by omega, fun hq => ?_⟩
    obtain ⟨g, o, rfl, h6, h7⟩ := h5 (by omega)
    rw [add_plain]
    refine ⟨g, o + m, rfl, h6, fun j hj => ?_⟩
    rw [Nat.add_assoc, h7 (m + j) (by omega), byt, byt, List.getElem?_map, List.getElem?_map, List.getElem?_take, if_pos (by omega), List.getElem?_drop]
theorem Sl.part0 {B : Nat} {w : World} {p : Option Addr} {cap m q q' c' : Nat} {xs : List Int} (h : Sl B w (.slice p xs.length cap) 1 xs.length (byt xs)) (hm : m + q ≤ xs.length) (hc : cap ≤ m) (hq' : q' = q) (hc' : c' = 0) : Sl B w (.slice p q' c') 1 ((xs.drop m).take q).length (byt ((xs.drop m).take q)) := by
  rw [hq', hc']
  have hlen := part_len hm
  rw [hlen]
  refine ⟨by rw [byt_len, hlen]; omega, ?_⟩
  rcases h.2 with ⟨h2, h3⟩ | ⟨ad, cap', h2, h3, h4, h5⟩
  · simp only [Value.slice.injEq] at h2
    obtain ⟨rfl, h2, rfl⟩ := h2
    obtain rfl : q = 0 := by omega
    exact .inl ⟨rfl, rfl⟩
  · simp only [Value.slice.injEq] at h2
    obtain ⟨rfl, -, rfl⟩ := h2
    obtain rfl : q = 0 := by omega
    exact .inr ⟨ad, 0, rfl, by omega, by unfold maxLen; omega, fun hq => absurd hq (by omega)⟩

end Go.Proofs.Ytjaabakobpabjaa
/- Logs: the plain law: a log of terms that rise by steps. -/
namespace Go.Proofs.Ytjaabakobpabjaa

def max1 (t : Int) : Int := if t < 1 then 1 else t
end Go.Proofs.Ytjaabakobpabjaa
/- What the statements lean on: a twin of bytes with spare room behind it, and whether it was kept. -/
namespace Go.Proofs.Ytjaabakobpabjaa
open Go.ChangeShapes Go.WideShapes Go.ChangeAt Go.RowKit

theorem row_cell {w : World} {g : Nat} {L : List Value} {t : TypeId} (h : w.heap[g]? = some (.cells L.toArray t (0, 0))) (j : Nat) : w.cell? ⟨g, j, none⟩ = L[j]? := by
  rw [cell_of_row w g j L.toArray t (0, 0) h]; simp
end Go.Proofs.Ytjaabakobpabjaa
/- Bytes as a text; whether a twin was kept. -/
namespace Go.Proofs.Ytjaabakobpabjaa
open Go.ChangeShapes Go.WideShapes Go.ChangeAt Go.RowKit

section
variable {P : Program} {w : World}
/-- Bytes of whatever slice, as a text. -/
theorem run_convert_sl {B : Nat} {v : Value} {xs : List Int} (hsl : Sl B w v 1 xs.length (byt xs)) (src e : TypeId) (hs : P.underlying src = some (.slice e)) (he : P.underlying e = some (.int .u8)) (dst : TypeId) (hd : P.underlying dst = some .string) :
    (convert src dst v).run P w = .ok (.string (strOfNums xs)) w := by
  rcases hsl.2 with ⟨rfl, h0⟩ | ⟨ad, cap, rfl, h1, h2, h3⟩
  · have : xs = [] := List.eq_nil_of_length_eq_zero h0
    subst this
    exact run_convert_bytes_nil w src e hs he 0 0 dst hd
  · by_cases h0 : 0 < xs.length
    · obtain ⟨g, o, rfl, h4, h5⟩ := h3 h0
      refine run_convert_bytes_arg w src e hs he g o xs.length cap xs rfl (fun i hi => ?_) dst hd
      rw [h5 i (by omega)]; simp [byt, hi, List.getD]
    · have : xs = [] := List.eq_nil_of_length_eq_zero (by omega)
      subst this
      rw [run_convert_bytes_string w src dst e _ _ cap hs he hd]
      have hl : (loadCells ad 0).run P w = .ok #[] w := by unfold loadCells loadCellsFrom; rfl
      rw [show ([] : List Int).length = 0 from rfl, run_bytesToString w _ 0 cap [] (by simpa using hl)]
      rfl
end

/-- A slice over a row that starts it. -/
theorem sl_row {w : World} {g n cap : Nat} {L : List Value} {t : TypeId} {xs : List Value} (h : w.heap[g]? = some (.cells L.toArray t (0, 0))) (hp : L.take n = xs) (hn : n ≤ L.length) (hc : n ≤ cap) (hm : cap ≤ maxLen) : Sl w.heap.size w (.slice (some ⟨g, 0, none⟩) n cap) 1 n xs := by
  refine ⟨by rw [← hp, List.length_take]; omega, .inr ⟨_, cap, rfl, hc, hm, fun _ => ⟨g, 0, rfl, (Array.getElem?_eq_some_iff.1 h).1, fun j hj => ?_⟩⟩⟩
  rw [Nat.zero_add, row_cell h j, ← hp, List.getElem?_take, if_pos (by omega)]

end Go.Proofs.Ytjaabakobpabjaa
/- The law's own logs. -/
namespace Go.Proofs.Ytjaabakobpabjaa
open Go.ChangeShapes Go.WideShapes Go.ChangeAt Go.RowKit

theorem Try.infoEn : (Try.prog.info? 85).map (fun i => (i.zero, i.size, i.bytes)) = some (some (.agg #[.int .i64 0, .int .i64 0, .string ⟨#[]⟩, .int .u16 0, .int .u16 0, .int .u16 0, .int .i64 0, .int .i64 0, .int .u16 0, .int .u16 0, .int .u16 0, .int .i64 0, .int .i64 0, .bool false]), 14, 88) := by kernel_rfl
theorem own_belowL {B : Nat} {w w' : World} {base : Nat} {e : TypeId} {size : Nat} {v : Value} {n : Nat} {xs : List Value} (h : w.ownsRow base e size v n xs) (hb : Below B w w') (hB : w.heap.size ≤ B) : w'.ownsRow base e size v n xs :=
  h.kept (row := none) ⟨hb.os, hb.tape, hb.output, hb.size, fun k hk _ => hb.block k (by omega)⟩ (by cases v.ownBlock <;> simp)
theorem own_geL {w : World} {base : Nat} {e : TypeId} {size : Nat} {v : Value} {n : Nat} {xs : List Value} (h : w.ownsRow base e size v n xs) : ∀ k, v.ownBlock = some k → base ≤ k ∧ k < w.heap.size := by
  intro k hk
  rcases h.2 with ⟨h3, h4⟩ | ⟨g, cap, cur, hv, hb, hg, -⟩
  · subst h3; simp [Value.ownBlock] at hk
  · subst hv
    have hkg : g = k := by simpa [Value.ownBlock] using hk
    subst hkg
    exact ⟨hb, block_lt hg⟩
theorem grown_setL {a w : World} {C : Nat} (h : a.grownBy w (some C)) (j : Nat) (v : Value) : a.grownBy (w.setCell ⟨C, j, none⟩ v) (some C) :=
  ⟨h.os, h.tape, h.output, by simpa [World.setCell] using h.size, fun k hk hne => (Below.heap_setCell _ _ _ _ (fun e => hne (by rw [e]))).trans (h.block k hk hne)⟩
theorem grown_reflL (w : World) (row : Option Nat) : w.grownBy w row := ⟨rfl, rfl, rfl, Nat.le_refl _, fun _ _ _ => rfl⟩
theorem put14_grown (w : World) (C : Nat) (x0 x1 x2 x3 x4 x5 x6 x7 x8 x9 x10 x11 x12 x13 : Value) : w.grownBy (put14 w C x0 x1 x2 x3 x4 x5 x6 x7 x8 x9 x10 x11 x12 x13) (some C) :=
  grown_setL (grown_setL (grown_setL (grown_setL (grown_setL (grown_setL (grown_setL (grown_setL (grown_setL (grown_setL (grown_setL (grown_setL (grown_setL (grown_setL (grown_reflL w _) 0 x0) 1 x1) 2 x2) 3 x3) 4 x4) 5 x5) 6 x6) 7 x7) 8 x8) 9 x9) 10 x10) 11 x11) 12 x12) 13 x13
theorem own_farL {w w' : World} {base : Nat} {e : TypeId} {size : Nat} {v : Value} {n : Nat} {xs : List Value} {C : Nat} (h : w.ownsRow base e size v n xs) (hg : w.grownBy w' (some C)) (hC : C < base) : w'.ownsRow base e size v n xs := by
  refine h.kept hg ?_
  cases hv : v.ownBlock with
  | none => exact .inl rfl
  | some g => right; intro he; have := (own_geL h g hv).1; simp only [Option.some.injEq] at he; omega
/-- A log in a memory of its own. -/
def LgEnd (B : Nat) (w : World) (m : Lg) (r : Ending) (w' : World) : Prop :=
  ∃ p c, r = .returned (.agg #[.int .i64 m.b, .int .i64 m.bt, .int .u16 m.j.ov, .int .u16 m.j.ox, .int .u16 m.j.ol, .int .i64 m.j.oe, .int .i64 m.j.ok, .int .u16 m.j.nv, .int .u16 m.j.nx, .int .u16 m.j.nl, .int .i64 m.j.ne, .int .i64 m.j.nk, .bool m.j.two, .slice p m.es.length c]) ∧ w'.ownsRow B 85 14 (.slice p m.es.length c) m.es.length (entRow m.es) ∧ Below w.heap.size w w'
end Go.Proofs.Ytjaabakobpabjaa
