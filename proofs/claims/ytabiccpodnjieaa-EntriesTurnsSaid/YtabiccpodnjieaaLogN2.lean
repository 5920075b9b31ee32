/- entries: Merge, behind the base: no entries. -/
import Derived.Test.YtabiccpodnjieaaLogN0
namespace Go.Proofs.Ytabiccpodnjieaa
open Go.ChangeShapes Go.WideShapes Go.ChangeAt Go.RowKit

set_option maxRecDepth 100000 in
set_option maxHeartbeats 16000000 in
theorem merge_high0 (l : Lg) (p : Option Addr) (c : Nat) (prev term : Int) (es : List Ent) (p2 : Option Addr) (c2 : Nat) (w : World) (hF : LgFit l) (hp : -9223372036854775808 ≤ prev ∧ prev ≤ 9223372036854775807) (hE : EnSl w (.slice p l.es.length c) l.es) (h2 : EnSl w (.slice p2 es.length c2) es) (hl : l.es.length + es.length ≤ 1000000) (hi : ¬ (l.last < prev ∨ prev < 0)) (hrf : refusedL l prev term es.length = false) (hb : l.b ≤ prev) (hz : es.length = 0) :
    Calls Try.prog 15 #[.agg #[.int .i64 l.b, .int .i64 l.bt, .int .u16 l.j.ov, .int .u16 l.j.ox, .int .u16 l.j.ol, .int .i64 l.j.oe, .int .i64 l.j.ok, .int .u16 l.j.nv, .int .u16 l.j.nx, .int .u16 l.j.nl, .int .i64 l.j.ne, .int .i64 l.j.nk, .bool l.j.two, .slice p l.es.length c], .int .i64 prev, .int .i64 term, .slice p2 es.length c2] w (LgEnd3 w.heap.size w (mergeL l prev term es)) := by
  have HE := Lib.hid hE
  have H2 := Lib.hid h2
  have HF := Lib.hid hF
  have hb0 := hF.b0; have hb1 := hF.b1; have hn := hF.n
  have H3 := Lib.hid (MgW.start hE hn)
  have hsz2 : es.length ≤ 1000000 := by omega
  obtain ⟨hp0, hp1⟩ := hp
  have hgt : ¬ l.last < prev := fun h => hi (.inl h)
  have hge : 0 ≤ prev := by have : ¬ prev < 0 := fun h => hi (.inr h); omega
  have hd : decide (l.last < prev) = false := by simpa using hgt
  have hd0 : decide (prev < 0) = false := by simpa using hge
  have hd2 : decide (prev < l.b) = false := by simpa using hb
  have hd1 : decide (l.b ≤ prev) = true := by simpa using hb
  have HR : Hid (mergeL l prev term es = (joinL l prev es, prev + es.length, true)) := by
    show _ = _; unfold mergeL; rw [if_neg hi, if_neg (by rw [hrf]; simp), if_neg (by omega)]
  obtain ⟨⟨T, b⟩, hT⟩ : ∃ x, termL l prev = x := ⟨_, rfl⟩
  have HT := Lib.hid hT
  have hbt : b = true := by have := termL_has hb (by omega); rw [hT] at this; exact this
  subst hbt
  have hTt : T = term := by
    unfold refusedL at hrf
    rw [hT] at hrf
    simp [hb] at hrf
    exact hrf.1
  subst hTt
  have HSUM : Hid (l.es.length + es.length ≤ 1000000) := hl
  have hlast : prev ≤ l.b + l.es.length := by unfold Lg.last at hgt; omega
  obtain rfl : es = [] := List.length_eq_zero_iff.1 hz
  have HX : Hid (mergeL l prev T [] = (l, prev, true)) := by
    show _ = _
    rw [HR.out]; unfold joinL cutAt; simp
  clear hi hrf hT hE h2 hF hl hz HR HSUM
  simp only [List.length_nil]
  go_enter Try.func15, Try.ntmps15
  go_wp2_with fail
  refine H3.out.mono ?_
  rintro r w2 ⟨p3, c3, rfl, M0⟩
  have M := Lib.hid M0
  clear M0
  go_upto_region 2 with fail
  obtain ⟨W, hW⟩ : ∃ W, w2.alloc (.cells #[.int .i64 l.b, .int .i64 l.bt, .int .u16 l.j.ov, .int .u16 l.j.ox, .int .u16 l.j.ol, .int .i64 l.j.oe, .int .i64 l.j.ok, .int .u16 l.j.nv, .int .u16 l.j.nx, .int .u16 l.j.nl, .int .i64 l.j.ne, .int .i64 l.j.nk, .bool l.j.two, .slice p3 l.es.length c3] 32) = W := ⟨_, rfl⟩
  obtain ⟨A, hA⟩ : ∃ A, w2.heap.size = A := ⟨_, rfl⟩
  rw [hW, hA] at M ⊢
  clear hW hA
  have kA := block_cells M.out.a
  have kT := block_cells M.out.t
  have kZ := block_cells M.out.z
  have fZ := block_free M.out.z
  go_wp2_with fail
  refine (last_any l p c W HF.out.b0 HF.out.b1 HF.out.n).mono ?_
  rintro r w4 ⟨rfl, hb4⟩
  have M4 := Lib.hid (M.out.keep hb4)
  have kA4 := block_cells M4.out.a
  have kT4 := block_cells M4.out.t
  have kZ4 := block_cells M4.out.z
  have fZ4 := block_free M4.out.z
  clear hb4 kA kT kZ fZ
  go_wp2_with fail
  refine (term_any l p c prev w4 HF.out.b0 HF.out.b1 HF.out.n hp0 hp1 (HE.out.keep M4.out.b (Nat.le_refl _)) HT).mono ?_
  rintro r w5 ⟨rfl, hb5⟩
  have M5 := Lib.hid (M4.out.keep hb5)
  have kA5 := block_cells M5.out.a
  have kT5 := block_cells M5.out.t
  have kZ5 := block_cells M5.out.z
  have fZ5 := block_free M5.out.z
  clear hb5 kA4 kT4 kZ4 fZ4
  go_upto_region 11 with fail
  go_wp2_with fail
  go_loopw [9, 85] (fun n9 i wr => n9 = .int .i64 prev ∧ i = .int .i64 0 ∧ w5 = wr) (fun _ i _ => 0)
  case atStart => exact ⟨by go_num, rfl, rfl⟩
  case round =>
    obtain ⟨rfl, rfl, rfl⟩ := hrel
    go_wp2_with fail
    obtain ⟨kF, hend⟩ := M5.out.same HX
    unfold put14 at kF hend
    refine bodyPost_ret (v := .tuple #[.agg #[.int .i64 l.b, .int .i64 l.bt, .int .u16 l.j.ov, .int .u16 l.j.ox, .int .u16 l.j.ol, .int .i64 l.j.oe, .int .i64 l.j.ok, .int .u16 l.j.nv, .int .u16 l.j.nx, .int .u16 l.j.nl, .int .i64 l.j.ne, .int .i64 l.j.nk, .bool l.j.two, .slice p3 l.es.length c3], .int .i64 prev, .bool true]) ?_ rfl hend
    simp [results, Try.results15, go_sem, kF]
end Go.Proofs.Ytabiccpodnjieaa
