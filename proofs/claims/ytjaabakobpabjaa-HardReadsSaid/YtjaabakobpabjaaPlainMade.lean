import Derived.Test.YtjaabakobpabjaaCalm
import Derived.Test.YtjaabakobpabjaaCalmTail
import Derived.Test.YtjaabakobpabjaaLogB
import Derived.Test.YtjaabakobpabjaaProg
import Derived.BigQuiet
import Derived.Deep.QuietTactic
import Derived.Lib.Hide
import Derived.IntWalk
import Derived.Outline
import Derived.Lib.Tables
import Derived.Lib.BitFns
/- Logs: the plain law: which log is newer. -/
namespace Go.Proofs.Ytjaabakobpabjaa

end Go.Proofs.Ytjaabakobpabjaa
/- entries: Newer; the reference's. -/
namespace Go.Proofs.Ytjaabakobpabjaa
open Go.ChangeShapes Go.WideShapes Go.ChangeAt Go.RowKit

/-- A log that may be. -/
structure LgFit (l : Lg) : Prop where
  b0 : 0 ≤ l.b
  b1 : l.b ≤ 1152921504606846976
  n : l.es.length ≤ 1000000
section
variable (l : Lg) (p : Option Addr) (c : Nat)
theorem term_is (w : World) (hf : LgFit l) {i : Int} (hi : -9223372036854775808 ≤ i ∧ i ≤ 9223372036854775807) (hE : EnSl w (.slice p l.es.length c) l.es) :
    Calls Try.prog 41 #[.agg #[.int .i64 l.b, .int .i64 l.bt, .int .u16 l.j.ov, .int .u16 l.j.ox, .int .u16 l.j.ol, .int .i64 l.j.oe, .int .i64 l.j.ok, .int .u16 l.j.nv, .int .u16 l.j.nx, .int .u16 l.j.nl, .int .i64 l.j.ne, .int .i64 l.j.nk, .bool l.j.two, .slice p l.es.length c], .int .i64 i] w fun r w' => r = .returned (.tuple #[.int .i64 (termL l i).1, .bool (termL l i).2]) ∧ Below w.heap.size w w' :=
  term_any l p c i w hf.b0 hf.b1 hf.n hi.1 hi.2 hE rfl
theorem rterm_is (w : World) (hf : LgFit l) {i : Int} (hi : -9223372036854775808 ≤ i ∧ i ≤ 9223372036854775807) (hE : EnSl w (.slice p l.es.length c) l.es) :
    Calls Try.prog 48 #[.agg #[.int .i64 l.b, .int .i64 l.bt, .int .u16 l.j.ov, .int .u16 l.j.ox, .int .u16 l.j.ol, .int .i64 l.j.oe, .int .i64 l.j.ok, .int .u16 l.j.nv, .int .u16 l.j.nx, .int .u16 l.j.nl, .int .i64 l.j.ne, .int .i64 l.j.nk, .bool l.j.two, .slice p l.es.length c], .int .i64 i] w fun r w' => r = .returned (.tuple #[.int .i64 (termL l i).1, .bool (termL l i).2]) ∧ Below w.heap.size w w' :=
  rterm_any l p c i w hf.b0 hf.b1 hf.n hi.1 hi.2 hE rfl
end
end Go.Proofs.Ytjaabakobpabjaa
/- Contracts of package bits: bytes laid behind bytes. -/
namespace Go.Proofs.Ytjaabakobpabjaa
open Go.RowKit

theorem Try.infoU8 : (Try.prog.info? 5).map (fun i => (i.zero, i.size, i.bytes)) = some (some (.int .u8 0), 1, 1) := by kernel_rfl
/-- Bytes as cells. -/
def byt (xs : List Int) : List Value := xs.map (.int .u8)
theorem byt_len (xs : List Int) : (byt xs).length = xs.length := by simp [byt]
theorem byt_app (xs ys : List Int) : byt xs ++ byt ys = byt (xs ++ ys) := by simp [byt]
theorem byt_one (xs : List Int) : ∀ u ∈ byt xs, u.oneCell' = true := by intro u hu; simp [byt] at hu; obtain ⟨x, _, rfl⟩ := hu; rfl

set_option maxHeartbeats 1000000 in
theorem room_any (B : Nat) (v : Value) (xs : List Int) (n : Int) (w : World) (hs : Sl B w v 1 xs.length (byt xs)) (hB : B ≤ w.heap.size) (hn : 0 ≤ n) (hb : (xs.length : Int) + n ≤ 140737488355328) :
    Calls Try.prog 87 #[v, .int .i64 n] w fun e w' => ∃ v', e = .returned v' ∧ w'.ownsRow w.heap.size 5 1 v' xs.length (byt xs) ∧ Below w.heap.size w w' := by
  obtain ⟨i0, hi, hz0, hz1, hz2⟩ := info_parts Try.infoU8
  have hs0 := hs
  obtain ⟨a, cap, rfl, h1, h2, h3, -⟩ := hs.form
  clear hs
  have HS := Lib.hid hs0; clear hs0 h3
  go_enter Try.func87, Try.ntmps87
  go_wp2_with (at_make; refine wpList_make_own _ rfl _ _ 32 rfl w.heap.size 5 i0 (.int .u8 0) 1 Try.underlying32 hi hz0 hz1 .i64 .i64 ((xs.length : Int) + n) (xs.length + n.toNat) rfl rfl ?c1 ?c2 ?c3 ?c4 ?_)
  case c1 => omega
  case c2 => rw [hz2]; omega
  case c3 => unfold maxLen; omega
  case c4 => exact Nat.le_refl _
  intro w1 hown hgrow
  have hb1 : Below w.heap.size w w1 := (Below.refl _ _).grown hgrow (Nat.le_refl _) (fun k h => by cases h)
  have HS1 := Lib.hid (HS.out.keep (hb1.mono hB))
  have hsz := hb1.size
  clear HS
  go_wp2_with (at_builtin; refine wpList_append_sl rfl _ _ 32 rfl w.heap.size 5 i0 (.int .u8 0) 1 1 Try.underlying32 hi hz0 hz1 hz2 rfl (by decide) _ 0 [] rfl hown B _ xs.length (byt xs) rfl HS1.out (byt_one _) ?d1 ?d2 ?d3 ?_)
  case d1 => unfold maxLen; omega
  case d2 => omega
  case d3 => exact hsz
  intro v' w2 hown2 hgrow2
  have hb2 : Below w.heap.size w w2 := hb1.grown hgrow2 hsz (fun k h => (hown.lt k h).1)
  clear hgrow hgrow2 hown HS1
  go_wp2
  go_ret
  exact ⟨v', rfl, hown2, hb2⟩
end Go.Proofs.Ytjaabakobpabjaa
/- Parts of slices of bytes. -/
namespace Go.Proofs.Ytjaabakobpabjaa
open Go.ChangeShapes Go.WideShapes Go.ChangeAt Go.RowKit

/-- A part of a slice. -/
theorem part_len {xs : List Int} {m q : Nat} (hm : m + q ≤ xs.length) : ((xs.drop m).take q).length = q := by rw [List.length_take, List.length_drop]; omega
theorem Sl.part {B : Nat} {w : World} {p : Option Addr} {cap m q q' : Nat} {xs : List Int} (h : Sl B w (.slice p xs.length cap) 1 xs.length (byt xs)) (hm : m + q ≤ xs.length) (hq' : q' = q) : Sl B w (.slice (Option.map (fun x => x.add m) p) q' (cap - m)) 1 ((xs.drop m).take q).length (byt ((xs.drop m).take q)) := by
  rw [hq']
  have hlen := part_len hm
  rw [hlen]
  refine ⟨by rw [byt_len, hlen]; omega, ?_⟩
  rcases h.2 with ⟨h2, h3⟩ | ⟨ad, cap', h2, h3, h4, h5⟩
  · simp only [Value.slice.injEq] at h2
    obtain ⟨rfl, h2, rfl⟩ := h2
    obtain rfl : q = 0 := by omega
    exact .inl ⟨by simp, rfl⟩
  · simp only [Value.slice.injEq] at h2
    obtain ⟨rfl, -, rfl⟩ := h2
    refine .inr ⟨ad.add m, cap - m, rfl, by omega, by omega, fun hq => ?_⟩
    obtain ⟨g, o, rfl, h6, h7⟩ := h5 (by omega)
    rw [add_plain]
    refine ⟨g, o + m, rfl, h6, fun j hj => ?_⟩
    rw [Nat.add_assoc, h7 (m + j) (by omega), byt, byt, List.getElem?_map, List.getElem?_map, List.getElem?_take, if_pos (by omega), List.getElem?_drop]
theorem Sl.part0 {B : Nat} {w : World} {p : Option Addr} {cap m q q' c' : Nat} {xs : List Int} (h : Sl B w (.slice p xs.length cap) 1 xs.length (byt xs)) (hm : m + q ≤ xs.length) (hc : cap ≤ m) (hq' : q' = q) (hc' : c' = 0) : Sl B w (.slice p q' c') 1 ((xs.drop m).take q).length (byt ((xs.drop m).take q)) := by
  rw [hq', hc']
  have hlen := part_len hm
  rw [hlen]
  refine ⟨by rw [byt_len, hlen]; omega, ?_⟩
  rcases h.2 with ⟨h2, h3⟩ | ⟨ad, cap', h2, h3, h4, h5⟩
  · simp only [Value.slice.injEq] at h2
    obtain ⟨rfl, h2, rfl⟩ := h2
    obtain rfl : q = 0 := by omega
    exact .inl ⟨rfl, rfl⟩
  · simp only [Value.slice.injEq] at h2
    obtain ⟨rfl, -, rfl⟩ := h2
    obtain rfl : q = 0 := by omega
    exact .inr ⟨ad, 0, rfl, by omega, by unfold maxLen; omega, fun hq => absurd hq (by omega)⟩

theorem Sl.partA {B : Nat} {w : World} {g o cap m q q' : Nat} {xs : List Int} (h : Sl B w (.slice (some ⟨g, o, none⟩) xs.length cap) 1 xs.length (byt xs)) (hm : m + q ≤ xs.length) (hq' : q' = q) : Sl B w (.slice (some ⟨g, o + m, none⟩) q' (cap - m)) 1 ((xs.drop m).take q).length (byt ((xs.drop m).take q)) := by
  have := h.part hm hq'
  simp only [Option.map_some, add_plain] at this
  exact this
end Go.Proofs.Ytjaabakobpabjaa
/- Logs: the plain law: a log of terms that rise by steps. -/
namespace Go.Proofs.Ytjaabakobpabjaa

end Go.Proofs.Ytjaabakobpabjaa
