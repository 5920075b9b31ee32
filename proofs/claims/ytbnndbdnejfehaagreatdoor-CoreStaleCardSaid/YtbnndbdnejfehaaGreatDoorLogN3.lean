import Derived.Test.YtbnndbdnejfehaaGreatDoorLogN0
/- entries: Merge, where nothing is taken. -/
namespace Go.Proofs.YtbnndbdnejfehaaGreatDoor
open Go.ChangeShapes Go.WideShapes Go.ChangeAt Go.RowKit

set_option maxRecDepth 100000 in
set_option maxHeartbeats 16000000 in
theorem merge_out (l : Lg) (p : Option Addr) (c : Nat) (prev term : Int) (es : List Ent) (p2 : Option Addr) (c2 : Nat) (w : World) (hF : LgFit l) (hp : -9223372036854775808 ≤ prev ∧ prev ≤ 9223372036854775807) (hE : EnSl w (.slice p l.es.length c) l.es) (h2 : EnSl w (.slice p2 es.length c2) es) (hl : l.es.length + es.length ≤ 1000000) (ho : l.last < prev ∨ prev < 0) :
    Calls Tryz.prog 145 #[.agg #[.int .i64 l.b, .int .i64 l.bt, .int .u16 l.j.ov, .int .u16 l.j.ox, .int .u16 l.j.ol, .int .i64 l.j.oe, .int .i64 l.j.ok, .int .u16 l.j.nv, .int .u16 l.j.nx, .int .u16 l.j.nl, .int .i64 l.j.ne, .int .i64 l.j.nk, .bool l.j.two, .slice p l.es.length c], .int .i64 prev, .int .i64 term, .slice p2 es.length c2] w (LgEnd3 w.heap.size w (mergeL l prev term es)) := by
  have HE := Lib.hid hE
  have H2 := Lib.hid h2
  have HF := Lib.hid hF
  have hb0 := hF.b0; have hb1 := hF.b1; have hn := hF.n
  have H3 := Lib.hid (MgW.start hE hn)
  have hsz2 : es.length ≤ 1000000 := by omega
  obtain ⟨hp0, hp1⟩ := hp
  have HR : Hid (mergeL l prev term es = (l, 0, false)) := by show _ = _; unfold mergeL; rw [if_pos ho]
  clear hE h2 hF
  by_cases hgt : l.last < prev
  · have hd : decide (l.last < prev) = true := by simpa using hgt
    clear ho
    go_enter Tryz.func145, Tryz.ntmps145
    go_wp2_with fail
    refine H3.out.mono ?_
    rintro r w2 ⟨p3, c3, rfl, M0⟩
    have M := Lib.hid M0
    clear M0
    go_upto_region 2 with fail
    obtain ⟨W, hW⟩ : ∃ W, w2.alloc (.cells #[.int .i64 l.b, .int .i64 l.bt, .int .u16 l.j.ov, .int .u16 l.j.ox, .int .u16 l.j.ol, .int .i64 l.j.oe, .int .i64 l.j.ok, .int .u16 l.j.nv, .int .u16 l.j.nx, .int .u16 l.j.nl, .int .i64 l.j.ne, .int .i64 l.j.nk, .bool l.j.two, .slice p3 l.es.length c3] 30) = W := ⟨_, rfl⟩
    obtain ⟨A, hA⟩ : ∃ A, w2.heap.size = A := ⟨_, rfl⟩
    rw [hW, hA] at M ⊢
    clear hW hA
    have kA := block_cells M.out.a
    have kT := block_cells M.out.t
    have kZ := block_cells M.out.z
    have fZ := block_free M.out.z
    go_wp2_with fail
    refine (last_any l p c W HF.out.b0 HF.out.b1 HF.out.n).mono ?_
    rintro r w4 ⟨rfl, hb4⟩
    have M4 := Lib.hid (M.out.keep hb4)
    have kA4 := block_cells M4.out.a
    have kT4 := block_cells M4.out.t
    have kZ4 := block_cells M4.out.z
    have fZ4 := block_free M4.out.z
    clear hb4 kA kT kZ fZ
    go_wp2_with fail
    obtain ⟨kF, hend⟩ := M4.out.same HR
    unfold put14 at kF hend
    refine bodyPost_ret (v := .tuple #[.agg #[.int .i64 l.b, .int .i64 l.bt, .int .u16 l.j.ov, .int .u16 l.j.ox, .int .u16 l.j.ol, .int .i64 l.j.oe, .int .i64 l.j.ok, .int .u16 l.j.nv, .int .u16 l.j.nx, .int .u16 l.j.nl, .int .i64 l.j.ne, .int .i64 l.j.nk, .bool l.j.two, .slice p3 l.es.length c3], .int .i64 0, .bool false]) ?_ rfl hend
    simp [results, Tryz.results145, go_sem, kF]
  · have hlt : prev < 0 := by omega
    have hd : decide (l.last < prev) = false := by simpa using hgt
    have hd0 : decide (prev < 0) = true := by simpa using hlt
    clear ho
    go_enter Tryz.func145, Tryz.ntmps145
    go_wp2_with fail
    refine H3.out.mono ?_
    rintro r w2 ⟨p3, c3, rfl, M0⟩
    have M := Lib.hid M0
    clear M0
    go_upto_region 2 with fail
    obtain ⟨W, hW⟩ : ∃ W, w2.alloc (.cells #[.int .i64 l.b, .int .i64 l.bt, .int .u16 l.j.ov, .int .u16 l.j.ox, .int .u16 l.j.ol, .int .i64 l.j.oe, .int .i64 l.j.ok, .int .u16 l.j.nv, .int .u16 l.j.nx, .int .u16 l.j.nl, .int .i64 l.j.ne, .int .i64 l.j.nk, .bool l.j.two, .slice p3 l.es.length c3] 30) = W := ⟨_, rfl⟩
    obtain ⟨A, hA⟩ : ∃ A, w2.heap.size = A := ⟨_, rfl⟩
    rw [hW, hA] at M ⊢
    clear hW hA
    have kA := block_cells M.out.a
    have kT := block_cells M.out.t
    have kZ := block_cells M.out.z
    have fZ := block_free M.out.z
    go_wp2_with fail
    refine (last_any l p c W HF.out.b0 HF.out.b1 HF.out.n).mono ?_
    rintro r w4 ⟨rfl, hb4⟩
    have M4 := Lib.hid (M.out.keep hb4)
    have kA4 := block_cells M4.out.a
    have kT4 := block_cells M4.out.t
    have kZ4 := block_cells M4.out.z
    have fZ4 := block_free M4.out.z
    clear hb4 kA kT kZ fZ
    go_wp2_with fail
    obtain ⟨kF, hend⟩ := M4.out.same HR
    unfold put14 at kF hend
    refine bodyPost_ret (v := .tuple #[.agg #[.int .i64 l.b, .int .i64 l.bt, .int .u16 l.j.ov, .int .u16 l.j.ox, .int .u16 l.j.ol, .int .i64 l.j.oe, .int .i64 l.j.ok, .int .u16 l.j.nv, .int .u16 l.j.nx, .int .u16 l.j.nl, .int .i64 l.j.ne, .int .i64 l.j.nk, .bool l.j.two, .slice p3 l.es.length c3], .int .i64 0, .bool false]) ?_ rfl hend
    simp [results, Tryz.results145, go_sem, kF]
set_option maxRecDepth 100000 in
set_option maxHeartbeats 16000000 in
theorem merge_ref (l : Lg) (p : Option Addr) (c : Nat) (prev term : Int) (es : List Ent) (p2 : Option Addr) (c2 : Nat) (w : World) (hF : LgFit l) (hp : -9223372036854775808 ≤ prev ∧ prev ≤ 9223372036854775807) (hE : EnSl w (.slice p l.es.length c) l.es) (h2 : EnSl w (.slice p2 es.length c2) es) (hl : l.es.length + es.length ≤ 1000000) (hi : ¬ (l.last < prev ∨ prev < 0)) (hrf : refusedL l prev term es.length = true) :
    Calls Tryz.prog 145 #[.agg #[.int .i64 l.b, .int .i64 l.bt, .int .u16 l.j.ov, .int .u16 l.j.ox, .int .u16 l.j.ol, .int .i64 l.j.oe, .int .i64 l.j.ok, .int .u16 l.j.nv, .int .u16 l.j.nx, .int .u16 l.j.nl, .int .i64 l.j.ne, .int .i64 l.j.nk, .bool l.j.two, .slice p l.es.length c], .int .i64 prev, .int .i64 term, .slice p2 es.length c2] w (LgEnd3 w.heap.size w (mergeL l prev term es)) := by
  have HE := Lib.hid hE
  have H2 := Lib.hid h2
  have HF := Lib.hid hF
  have hb0 := hF.b0; have hb1 := hF.b1; have hn := hF.n
  have H3 := Lib.hid (MgW.start hE hn)
  have hsz2 : es.length ≤ 1000000 := by omega
  obtain ⟨hp0, hp1⟩ := hp
  have HR : Hid (mergeL l prev term es = (l, 0, false)) := by show _ = _; unfold mergeL; rw [if_neg hi, if_pos hrf]
  clear hE h2 hF
  have hgt : ¬ l.last < prev := fun h => hi (.inl h)
  have hge : 0 ≤ prev := by have : ¬ prev < 0 := fun h => hi (.inr h); omega
  have hd : decide (l.last < prev) = false := by simpa using hgt
  have hd0 : decide (prev < 0) = false := by simpa using hge
  obtain ⟨⟨T, b⟩, hT⟩ : ∃ x, termL l prev = x := ⟨_, rfl⟩
  have HT := Lib.hid hT
  unfold refusedL at hrf
  rw [hT] at hrf
  by_cases hb : l.b ≤ prev
  · have hbt : b = true := by have := termL_has hb (by omega); rw [hT] at this; exact this
    subst hbt
    have hne : T ≠ term := by
      intro e
      simp [e] at hrf
      omega
    have hd1 : decide (l.b ≤ prev) = true := by simpa using hb
    have hd2 : decide (prev < l.b) = false := by simpa using hb
    clear hi hrf hT
    go_enter Tryz.func145, Tryz.ntmps145
    go_wp2_with fail
    refine H3.out.mono ?_
    rintro r w2 ⟨p3, c3, rfl, M0⟩
    have M := Lib.hid M0
    clear M0
    go_upto_region 2 with fail
    obtain ⟨W, hW⟩ : ∃ W, w2.alloc (.cells #[.int .i64 l.b, .int .i64 l.bt, .int .u16 l.j.ov, .int .u16 l.j.ox, .int .u16 l.j.ol, .int .i64 l.j.oe, .int .i64 l.j.ok, .int .u16 l.j.nv, .int .u16 l.j.nx, .int .u16 l.j.nl, .int .i64 l.j.ne, .int .i64 l.j.nk, .bool l.j.two, .slice p3 l.es.length c3] 30) = W := ⟨_, rfl⟩
    obtain ⟨A, hA⟩ : ∃ A, w2.heap.size = A := ⟨_, rfl⟩
    rw [hW, hA] at M ⊢
    clear hW hA
    have kA := block_cells M.out.a
    have kT := block_cells M.out.t
    have kZ := block_cells M.out.z
    have fZ := block_free M.out.z
    go_wp2_with fail
    refine (last_any l p c W HF.out.b0 HF.out.b1 HF.out.n).mono ?_
    rintro r w4 ⟨rfl, hb4⟩
    have M4 := Lib.hid (M.out.keep hb4)
    have kA4 := block_cells M4.out.a
    have kT4 := block_cells M4.out.t
    have kZ4 := block_cells M4.out.z
    have fZ4 := block_free M4.out.z
    clear hb4 kA kT kZ fZ
    go_wp2_with fail
    refine (term_any l p c prev w4 HF.out.b0 HF.out.b1 HF.out.n hp0 hp1 (HE.out.keep M4.out.b (Nat.le_refl _)) HT).mono ?_
    rintro r w5 ⟨rfl, hb5⟩
    have M5 := Lib.hid (M4.out.keep hb5)
    have kA5 := block_cells M5.out.a
    have kT5 := block_cells M5.out.t
    have kZ5 := block_cells M5.out.z
    have fZ5 := block_free M5.out.z
    clear hb5 kA4 kT4 kZ4 fZ4
    go_wp2_with fail
    obtain ⟨kF, hend⟩ := M5.out.same HR
    unfold put14 at kF hend
    refine bodyPost_ret (v := .tuple #[.agg #[.int .i64 l.b, .int .i64 l.bt, .int .u16 l.j.ov, .int .u16 l.j.ox, .int .u16 l.j.ol, .int .i64 l.j.oe, .int .i64 l.j.ok, .int .u16 l.j.nv, .int .u16 l.j.nx, .int .u16 l.j.nl, .int .i64 l.j.ne, .int .i64 l.j.nk, .bool l.j.two, .slice p3 l.es.length c3], .int .i64 0, .bool false]) ?_ rfl hend
    simp [results, Tryz.results145, go_sem, kF]
  · have hlb : prev < l.b := by omega
    have hsh : (es.length : Int) < l.b - prev := by
      have h1 : decide (l.b ≤ prev) = false := by simpa using hb
      simpa [h1, hlb] using hrf
    have hd1 : decide (l.b ≤ prev) = false := by simpa using hb
    have hd2 : decide (prev < l.b) = true := by simpa using hlb
    clear hi hrf hT
    go_enter Tryz.func145, Tryz.ntmps145
    go_wp2_with fail
    refine H3.out.mono ?_
    rintro r w2 ⟨p3, c3, rfl, M0⟩
    have M := Lib.hid M0
    clear M0
    go_upto_region 2 with fail
    obtain ⟨W, hW⟩ : ∃ W, w2.alloc (.cells #[.int .i64 l.b, .int .i64 l.bt, .int .u16 l.j.ov, .int .u16 l.j.ox, .int .u16 l.j.ol, .int .i64 l.j.oe, .int .i64 l.j.ok, .int .u16 l.j.nv, .int .u16 l.j.nx, .int .u16 l.j.nl, .int .i64 l.j.ne, .int .i64 l.j.nk, .bool l.j.two, .slice p3 l.es.length c3] 30) = W := ⟨_, rfl⟩
    obtain ⟨A, hA⟩ : ∃ A, w2.heap.size = A := ⟨_, rfl⟩
    rw [hW, hA] at M ⊢
    clear hW hA
    have kA := block_cells M.out.a
    have kT := block_cells M.out.t
    have kZ := block_cells M.out.z
    have fZ := block_free M.out.z
    go_wp2_with fail
    refine (last_any l p c W HF.out.b0 HF.out.b1 HF.out.n).mono ?_
    rintro r w4 ⟨rfl, hb4⟩
    have M4 := Lib.hid (M.out.keep hb4)
    have kA4 := block_cells M4.out.a
    have kT4 := block_cells M4.out.t
    have kZ4 := block_cells M4.out.z
    have fZ4 := block_free M4.out.z
    clear hb4 kA kT kZ fZ
    go_wp2_with fail
    refine (term_any l p c prev w4 HF.out.b0 HF.out.b1 HF.out.n hp0 hp1 (HE.out.keep M4.out.b (Nat.le_refl _)) HT).mono ?_
    rintro r w5 ⟨rfl, hb5⟩
    have M5 := Lib.hid (M4.out.keep hb5)
    have kA5 := block_cells M5.out.a
    have kT5 := block_cells M5.out.t
    have kZ5 := block_cells M5.out.z
    have fZ5 := block_free M5.out.z
    clear hb5 kA4 kT4 kZ4 fZ4
    go_wp2_with fail
    obtain ⟨kF, hend⟩ := M5.out.same HR
    unfold put14 at kF hend
    refine bodyPost_ret (v := .tuple #[.agg #[.int .i64 l.b, .int .i64 l.bt, .int .u16 l.j.ov, .int .u16 l.j.ox, .int .u16 l.j.ol, .int .i64 l.j.oe, .int .i64 l.j.ok, .int .u16 l.j.nv, .int .u16 l.j.nx, .int .u16 l.j.nl, .int .i64 l.j.ne, .int .i64 l.j.nk, .bool l.j.two, .slice p3 l.es.length c3], .int .i64 0, .bool false]) ?_ rfl hend
    simp [results, Tryz.results145, go_sem, kF]
end Go.Proofs.YtbnndbdnejfehaaGreatDoor
/- entries: Merge, behind the base: no entries. -/
namespace Go.Proofs.YtbnndbdnejfehaaGreatDoor
open Go.ChangeShapes Go.WideShapes Go.ChangeAt Go.RowKit

set_option maxRecDepth 100000 in
set_option maxHeartbeats 16000000 in
theorem merge_high0 (l : Lg) (p : Option Addr) (c : Nat) (prev term : Int) (es : List Ent) (p2 : Option Addr) (c2 : Nat) (w : World) (hF : LgFit l) (hp : -9223372036854775808 ≤ prev ∧ prev ≤ 9223372036854775807) (hE : EnSl w (.slice p l.es.length c) l.es) (h2 : EnSl w (.slice p2 es.length c2) es) (hl : l.es.length + es.length ≤ 1000000) (hi : ¬ (l.last < prev ∨ prev < 0)) (hrf : refusedL l prev term es.length = false) (hb : l.b ≤ prev) (hz : es.length = 0) :
    Calls Tryz.prog 145 #[.agg #[.int .i64 l.b, .int .i64 l.bt, .int .u16 l.j.ov, .int .u16 l.j.ox, .int .u16 l.j.ol, .int .i64 l.j.oe, .int .i64 l.j.ok, .int .u16 l.j.nv, .int .u16 l.j.nx, .int .u16 l.j.nl, .int .i64 l.j.ne, .int .i64 l.j.nk, .bool l.j.two, .slice p l.es.length c], .int .i64 prev, .int .i64 term, .slice p2 es.length c2] w (LgEnd3 w.heap.size w (mergeL l prev term es)) := by
  have HE := Lib.hid hE
  have H2 := Lib.hid h2
  have HF := Lib.hid hF
  have hb0 := hF.b0; have hb1 := hF.b1; have hn := hF.n
  have H3 := Lib.hid (MgW.start hE hn)
  have hsz2 : es.length ≤ 1000000 := by omega
  obtain ⟨hp0, hp1⟩ := hp
  have hgt : ¬ l.last < prev := fun h => hi (.inl h)
  have hge : 0 ≤ prev := by have : ¬ prev < 0 := fun h => hi (.inr h); omega
  have hd : decide (l.last < prev) = false := by simpa using hgt
  have hd0 : decide (prev < 0) = false := by simpa using hge
  have hd2 : decide (prev < l.b) = false := by simpa using hb
  have hd1 : decide (l.b ≤ prev) = true := by simpa using hb
  have HR : Hid (mergeL l prev term es = (joinL l prev es, prev + es.length, true)) := by
    show _ = _; unfold mergeL; rw [if_neg hi, if_neg (by rw [hrf]; simp), if_neg (by omega)]
  obtain ⟨⟨T, b⟩, hT⟩ : ∃ x, termL l prev = x := ⟨_, rfl⟩
  have HT := Lib.hid hT
  have hbt : b = true := by have := termL_has hb (by omega); rw [hT] at this; exact this
  subst hbt
  have hTt : T = term := by
    unfold refusedL at hrf
    rw [hT] at hrf
    simp [hb] at hrf
    exact hrf.1
  subst hTt
  have HSUM : Hid (l.es.length + es.length ≤ 1000000) := hl
  have hlast : prev ≤ l.b + l.es.length := by unfold Lg.last at hgt; omega
  obtain rfl : es = [] := List.length_eq_zero_iff.1 hz
  have HX : Hid (mergeL l prev T [] = (l, prev, true)) := by
    show _ = _
    rw [HR.out]; unfold joinL cutAt; simp
  clear hi hrf hT hE h2 hF hl hz HR HSUM
  simp only [List.length_nil]
  go_enter Tryz.func145, Tryz.ntmps145
  go_wp2_with fail
  refine H3.out.mono ?_
  rintro r w2 ⟨p3, c3, rfl, M0⟩
  have M := Lib.hid M0
  clear M0
  go_upto_region 2 with fail
  obtain ⟨W, hW⟩ : ∃ W, w2.alloc (.cells #[.int .i64 l.b, .int .i64 l.bt, .int .u16 l.j.ov, .int .u16 l.j.ox, .int .u16 l.j.ol, .int .i64 l.j.oe, .int .i64 l.j.ok, .int .u16 l.j.nv, .int .u16 l.j.nx, .int .u16 l.j.nl, .int .i64 l.j.ne, .int .i64 l.j.nk, .bool l.j.two, .slice p3 l.es.length c3] 30) = W := ⟨_, rfl⟩
  obtain ⟨A, hA⟩ : ∃ A, w2.heap.size = A := ⟨_, rfl⟩
  rw [hW, hA] at M ⊢
  clear hW hA
  have kA := block_cells M.out.a
  have kT := block_cells M.out.t
  have kZ := block_cells M.out.z
  have fZ := block_free M.out.z
  go_wp2_with fail
  refine (last_any l p c W HF.out.b0 HF.out.b1 HF.out.n).mono ?_
  rintro r w4 ⟨rfl, hb4⟩
  have M4 := Lib.hid (M.out.keep hb4)
  have kA4 := block_cells M4.out.a
  have kT4 := block_cells M4.out.t
  have kZ4 := block_cells M4.out.z
  have fZ4 := block_free M4.out.z
  clear hb4 kA kT kZ fZ
  go_wp2_with fail
  refine (term_any l p c prev w4 HF.out.b0 HF.out.b1 HF.out.n hp0 hp1 (HE.out.keep M4.out.b (Nat.le_refl _)) HT).mono ?_
  rintro r w5 ⟨rfl, hb5⟩
  have M5 := Lib.hid (M4.out.keep hb5)
  have kA5 := block_cells M5.out.a
  have kT5 := block_cells M5.out.t
  have kZ5 := block_cells M5.out.z
  have fZ5 := block_free M5.out.z
  clear hb5 kA4 kT4 kZ4 fZ4
  go_upto_region 11 with fail
  go_wp2_with fail
  go_loopw [9, 85] (fun n9 i wr => n9 = .int .i64 prev ∧ i = .int .i64 0 ∧ w5 = wr) (fun _ i _ => 0)
  case atStart => exact ⟨by go_num, rfl, rfl⟩
  case round =>
    obtain ⟨rfl, rfl, rfl⟩ := hrel
    go_wp2_with fail
    obtain ⟨kF, hend⟩ := M5.out.same HX
    unfold put14 at kF hend
    refine bodyPost_ret (v := .tuple #[.agg #[.int .i64 l.b, .int .i64 l.bt, .int .u16 l.j.ov, .int .u16 l.j.ox, .int .u16 l.j.ol, .int .i64 l.j.oe, .int .i64 l.j.ok, .int .u16 l.j.nv, .int .u16 l.j.nx, .int .u16 l.j.nl, .int .i64 l.j.ne, .int .i64 l.j.nk, .bool l.j.two, .slice p3 l.es.length c3], .int .i64 prev, .bool true]) ?_ rfl hend
    simp [results, Tryz.results145, go_sem, kF]
end Go.Proofs.YtbnndbdnejfehaaGreatDoor
/- entries: Merge, behind the base (none). -/
namespace Go.Proofs.YtbnndbdnejfehaaGreatDoor
open Go.ChangeShapes Go.WideShapes Go.ChangeAt Go.RowKit

set_option maxRecDepth 100000 in
set_option maxHeartbeats 16000000 in
theorem merge_high_none (l : Lg) (p : Option Addr) (c : Nat) (prev term : Int) (es : List Ent) (p2 : Option Addr) (c2 : Nat) (w : World) (hF : LgFit l) (hp : -9223372036854775808 ≤ prev ∧ prev ≤ 9223372036854775807) (hE : EnSl w (.slice p l.es.length c) l.es) (h2 : EnSl w (.slice p2 es.length c2) es) (hl : l.es.length + es.length ≤ 1000000) (hi : ¬ (l.last < prev ∨ prev < 0)) (hrf : refusedL l prev term es.length = false) (hb : l.b ≤ prev) (hz : 0 < es.length) (hcut : ∀ j < es.length, badL l prev es j = false) :
    Calls Tryz.prog 145 #[.agg #[.int .i64 l.b, .int .i64 l.bt, .int .u16 l.j.ov, .int .u16 l.j.ox, .int .u16 l.j.ol, .int .i64 l.j.oe, .int .i64 l.j.ok, .int .u16 l.j.nv, .int .u16 l.j.nx, .int .u16 l.j.nl, .int .i64 l.j.ne, .int .i64 l.j.nk, .bool l.j.two, .slice p l.es.length c], .int .i64 prev, .int .i64 term, .slice p2 es.length c2] w (LgEnd3 w.heap.size w (mergeL l prev term es)) := by
  have HE := Lib.hid hE
  have H2 := Lib.hid h2
  have HF := Lib.hid hF
  have hb0 := hF.b0; have hb1 := hF.b1; have hn := hF.n
  have H3 := Lib.hid (MgW.start hE hn)
  have hsz2 : es.length ≤ 1000000 := by omega
  obtain ⟨hp0, hp1⟩ := hp
  have hgt : ¬ l.last < prev := fun h => hi (.inl h)
  have hge : 0 ≤ prev := by have : ¬ prev < 0 := fun h => hi (.inr h); omega
  have hd : decide (l.last < prev) = false := by simpa using hgt
  have hd0 : decide (prev < 0) = false := by simpa using hge
  have hd2 : decide (prev < l.b) = false := by simpa using hb
  have hd1 : decide (l.b ≤ prev) = true := by simpa using hb
  have HR : Hid (mergeL l prev term es = (joinL l prev es, prev + es.length, true)) := by
    show _ = _; unfold mergeL; rw [if_neg hi, if_neg (by rw [hrf]; simp), if_neg (by omega)]
  obtain ⟨⟨T, b⟩, hT⟩ : ∃ x, termL l prev = x := ⟨_, rfl⟩
  have HT := Lib.hid hT
  have hbt : b = true := by have := termL_has hb (by omega); rw [hT] at this; exact this
  subst hbt
  have hTt : T = term := by
    unfold refusedL at hrf
    rw [hT] at hrf
    simp [hb] at hrf
    exact hrf.1
  subst hTt
  have HSUM : Hid (l.es.length + es.length ≤ 1000000) := hl
  have hlast : prev ≤ l.b + l.es.length := by unfold Lg.last at hgt; omega
  obtain ⟨p2', c2', he2, hc21, hc22⟩ := h2.form
  simp only [Value.slice.injEq] at he2
  obtain ⟨rfl, -, rfl⟩ := he2
  have HCAP := Lib.hid hc21
  obtain ⟨g, o, cap, hv, -, -⟩ := h2.at 0 hz
  simp only [Value.slice.injEq, true_and] at hv
  obtain ⟨rfl, -⟩ := hv
  have HG := Lib.hid hcut
  clear hi hrf hT hE h2 hF hl hz hc21 hcut
  go_enter Tryz.func145, Tryz.ntmps145
  go_wp2_with fail
  refine H3.out.mono ?_
  rintro r w2 ⟨p3, c3, rfl, M0⟩
  have M := Lib.hid M0
  clear M0
  go_upto_region 2 with fail
  obtain ⟨W, hW⟩ : ∃ W, w2.alloc (.cells #[.int .i64 l.b, .int .i64 l.bt, .int .u16 l.j.ov, .int .u16 l.j.ox, .int .u16 l.j.ol, .int .i64 l.j.oe, .int .i64 l.j.ok, .int .u16 l.j.nv, .int .u16 l.j.nx, .int .u16 l.j.nl, .int .i64 l.j.ne, .int .i64 l.j.nk, .bool l.j.two, .slice p3 l.es.length c3] 30) = W := ⟨_, rfl⟩
  obtain ⟨A, hA⟩ : ∃ A, w2.heap.size = A := ⟨_, rfl⟩
  rw [hW, hA] at M ⊢
  clear hW hA
  have kA := block_cells M.out.a
  have kT := block_cells M.out.t
  have kZ := block_cells M.out.z
  have fZ := block_free M.out.z
  go_wp2_with fail
  refine (last_any l p c W HF.out.b0 HF.out.b1 HF.out.n).mono ?_
  rintro r w4 ⟨rfl, hb4⟩
  have M4 := Lib.hid (M.out.keep hb4)
  have kA4 := block_cells M4.out.a
  have kT4 := block_cells M4.out.t
  have kZ4 := block_cells M4.out.z
  have fZ4 := block_free M4.out.z
  clear hb4 kA kT kZ fZ
  go_wp2_with fail
  refine (term_any l p c prev w4 HF.out.b0 HF.out.b1 HF.out.n hp0 hp1 (HE.out.keep M4.out.b (Nat.le_refl _)) HT).mono ?_
  rintro r w5 ⟨rfl, hb5⟩
  have M5 := Lib.hid (M4.out.keep hb5)
  have kA5 := block_cells M5.out.a
  have kT5 := block_cells M5.out.t
  have kZ5 := block_cells M5.out.z
  have fZ5 := block_free M5.out.z
  clear hb5 kA4 kT4 kZ4 fZ4
  go_upto_region 11 with fail
  go_wp2_with fail
  go_loopw [9, 85] (fun n9 i wr => n9 = .int .i64 (prev + es.length) ∧ ∃ k : Nat, k ≤ es.length ∧ i = .int .i64 k ∧ Hid (Below w5.heap.size w5 wr)) (fun _ i _ => es.length - (intOf i).toNat)
  case atStart => exact ⟨rfl, 0, Nat.zero_le _, rfl, Below.refl _ _⟩
  case round =>
    obtain ⟨rfl, k, hk, rfl, HB⟩ := hrel
    obtain ⟨wk, rfl⟩ : ∃ wk : World, wk = wr := ⟨_, rfl⟩
    have M6 := Lib.hid (M5.out.keep HB.out)
    have kA6 := block_cells M6.out.a
    have kT6 := block_cells M6.out.t
    have kZ6 := block_cells M6.out.z
    have fZ6 := block_free M6.out.z
    clear kA5 kT5 kZ5 fZ5
    by_cases hlt : k < es.length
    · have hlE : k < es.length := hlt
      obtain ⟨hgl, hc⟩ := (H2.out.keep M6.out.b (Nat.le_refl _)).cells k hlE
      obtain ⟨e, he⟩ : ∃ e, es[k] = e := ⟨_, rfl⟩
      have hgd : (es.getD k ent0).t = e.t := by rw [← he]; simp [List.getD, List.getElem?_eq_getElem hlE]
      rw [he] at hc
      have hq0 : wk.cell? ⟨g, o + k * 14, none⟩ = some (.int .i64 e.t) := hc 0 (by decide)
      have hq1 : wk.cell? ⟨g, o + k * 14 + 1, none⟩ = some (.int .i64 e.k) := hc 1 (by decide)
      have hq2 : wk.cell? ⟨g, o + k * 14 + 2, none⟩ = some (.string e.d) := hc 2 (by decide)
      have hq3 : wk.cell? ⟨g, o + k * 14 + 3, none⟩ = some (.int .u16 e.j.ov) := hc 3 (by decide)
      have hq4 : wk.cell? ⟨g, o + k * 14 + 4, none⟩ = some (.int .u16 e.j.ox) := hc 4 (by decide)
      have hq5 : wk.cell? ⟨g, o + k * 14 + 5, none⟩ = some (.int .u16 e.j.ol) := hc 5 (by decide)
      have hq6 : wk.cell? ⟨g, o + k * 14 + 6, none⟩ = some (.int .i64 e.j.oe) := hc 6 (by decide)
      have hq7 : wk.cell? ⟨g, o + k * 14 + 7, none⟩ = some (.int .i64 e.j.ok) := hc 7 (by decide)
      have hq8 : wk.cell? ⟨g, o + k * 14 + 8, none⟩ = some (.int .u16 e.j.nv) := hc 8 (by decide)
      have hq9 : wk.cell? ⟨g, o + k * 14 + 9, none⟩ = some (.int .u16 e.j.nx) := hc 9 (by decide)
      have hq10 : wk.cell? ⟨g, o + k * 14 + 10, none⟩ = some (.int .u16 e.j.nl) := hc 10 (by decide)
      have hq11 : wk.cell? ⟨g, o + k * 14 + 11, none⟩ = some (.int .i64 e.j.ne) := hc 11 (by decide)
      have hq12 : wk.cell? ⟨g, o + k * 14 + 12, none⟩ = some (.int .i64 e.j.nk) := hc 12 (by decide)
      have hq13 : wk.cell? ⟨g, o + k * 14 + 13, none⟩ = some (.bool e.j.two) := hc 13 (by decide)
      have hd3 : decide ((k : Int) < (es.length : Nat)) = true := by simp; omega
      have hV := Lib.hid (heap_last wk (.cells #[.int .i64 e.t, .int .i64 e.k, .string e.d, .int .u16 e.j.ov, .int .u16 e.j.ox, .int .u16 e.j.ol, .int .i64 e.j.oe, .int .i64 e.j.ok, .int .u16 e.j.nv, .int .u16 e.j.nx, .int .u16 e.j.nl, .int .i64 e.j.ne, .int .i64 e.j.nk, .bool e.j.two] 47))
      have M7 := Lib.hid (M6.out.alloc (.cells #[.int .i64 e.t, .int .i64 e.k, .string e.d, .int .u16 e.j.ov, .int .u16 e.j.ox, .int .u16 e.j.ol, .int .i64 e.j.oe, .int .i64 e.j.ok, .int .u16 e.j.nv, .int .u16 e.j.nx, .int .u16 e.j.nl, .int .i64 e.j.ne, .int .i64 e.j.nk, .bool e.j.two] 47))
      obtain ⟨⟨T2, b2⟩, hT2⟩ : ∃ x, termL l (prev + 1 + k) = x := ⟨_, rfl⟩
      have hbad : Hid (badL l prev es k = ((T2, b2) != (e.t, true))) := by show _ = _; unfold badL; rw [hT2, hgd]
      have HC2 := Lib.hid (term_any l p c (prev + 1 + k) _ HF.out.b0 HF.out.b1 HF.out.n (by omega) (by omega) (HE.out.keep M7.out.b (Nat.le_refl _)) hT2)
      have kA7 := block_cells M7.out.a
      have kT7 := block_cells M7.out.t
      have kZ7 := block_cells M7.out.z
      have fZ7 := block_free M7.out.z
      obtain ⟨rfl, rfl⟩ : b2 = true ∧ T2 = e.t := by
        have := HG.out k hlE
        rw [hbad.out] at this
        simp only [bne_eq_false_iff_eq, Prod.mk.injEq] at this
        exact ⟨this.2, this.1⟩
      clear hbad hgl hc he hgd hT2
      go_wp2_with fail
      refine HC2.out.mono ?_
      rintro r w7 ⟨rfl, hb7⟩
      have M8 := Lib.hid (M7.out.keep hb7)
      have kE8 := block_cells (below_block hb7 (block_lt hV.out) hV.out)
      have kA8 := block_cells M8.out.a
      have kT8 := block_cells M8.out.t
      have kZ8 := block_cells M8.out.z
      have fZ8 := block_free M8.out.z
      have HB8 : Hid (Below w5.heap.size w5 w7) := (HB.out.alloc HB.out.size _).trans (hb7.mono (Nat.le_trans HB.out.size (by simp)))
      clear hb7 kA6 kT6 kZ6 fZ6 kA7 kT7 kZ7 fZ7
      go_wp2_with fail
      go_roundw
      case rel => exact ⟨rfl, k + 1, by omega, by go_num, HB8⟩
      case measure => simp [intOf]; omega
    · obtain rfl : k = es.length := by omega
      have HX : Hid (mergeL l prev T es = (l, prev + es.length, true)) := by
        show _ = _
        rw [HR.out]
        unfold joinL
        rw [cutAt_none HG.out]
      go_wp2_with fail
      obtain ⟨kF, hend⟩ := M6.out.same HX
      unfold put14 at kF hend
      refine bodyPost_ret (v := .tuple #[.agg #[.int .i64 l.b, .int .i64 l.bt, .int .u16 l.j.ov, .int .u16 l.j.ox, .int .u16 l.j.ol, .int .i64 l.j.oe, .int .i64 l.j.ok, .int .u16 l.j.nv, .int .u16 l.j.nx, .int .u16 l.j.nl, .int .i64 l.j.ne, .int .i64 l.j.nk, .bool l.j.two, .slice p3 l.es.length c3], .int .i64 (prev + es.length), .bool true]) ?_ rfl hend
      simp [results, Tryz.results145, go_sem, kF]
end Go.Proofs.YtbnndbdnejfehaaGreatDoor
