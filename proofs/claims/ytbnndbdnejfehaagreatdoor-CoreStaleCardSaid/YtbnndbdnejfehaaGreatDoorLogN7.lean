import Derived.Test.YtbnndbdnejfehaaGreatDoorLogP
/- entries: Merge, where nothing is taken. -/
namespace Go.Proofs.YtbnndbdnejfehaaGreatDoor
open Go.ChangeShapes Go.WideShapes Go.ChangeAt Go.RowKit

set_option maxRecDepth 100000 in
set_option maxHeartbeats 16000000 in
theorem merge_out (l : Lg) (p : Option Addr) (c : Nat) (prev term : Int) (es : List Ent) (p2 : Option Addr) (c2 : Nat) (w : World) (hF : LgFit l) (hp : -9223372036854775808 ≤ prev ∧ prev ≤ 9223372036854775807) (hE : EnSl w (.slice p l.es.length c) l.es) (h2 : EnSl w (.slice p2 es.length c2) es) (hl : l.es.length + es.length ≤ 1000000) (ho : l.last < prev ∨ prev < 0) :
    Calls Tryz.prog 145 #[.agg #[.int .i64 l.b, .int .i64 l.bt, .int .u16 l.j.ov, .int .u16 l.j.ox, .int .u16 l.j.ol, .int .i64 l.j.oe, .int .i64 l.j.ok, .int .u16 l.j.nv, .int .u16 l.j.nx, .int .u16 l.j.nl, .int .i64 l.j.ne, .int .i64 l.j.nk, .bool l.j.two, .slice p l.es.length c], .int .i64 prev, .int .i64 term, .slice p2 es.length c2] w (LgEnd3 w.heap.size w (mergeL l prev term es)) := by
  have HE := Lib.hid hE
  have H2 := Lib.hid h2
  have HF := Lib.hid hF
  have hb0 := hF.b0; have hb1 := hF.b1; have hn := hF.n
  have H3 := Lib.hid (MgW.start hE hn)
  have hsz2 : es.length ≤ 1000000 := by omega
  obtain ⟨hp0, hp1⟩ := hp
  have HR : Hid (mergeL l prev term es = (l, 0, false)) := by show _ = _; unfold mergeL; rw [if_pos ho]
  clear hE h2 hF
  by_cases hgt : l.last < prev
  · have hd : decide (l.last < prev) = true := by simpa using hgt
    clear ho
    go_enter Tryz.func145, Tryz.ntmps145
    go_wp2_with fail
    refine H3.out.mono ?_
    rintro r w2 ⟨p3, c3, rfl, M0⟩
    have M := Lib.hid M0
    clear M0
    go_upto_region 2 with fail
    obtain ⟨W, hW⟩ : ∃ W, w2.alloc (.cells #[.int .i64 l.b, .int .i64 l.bt, .int .u16 l.j.ov, .int .u16 l.j.ox, .int .u16 l.j.ol, .int .i64 l.j.oe, .int .i64 l.j.ok, .int .u16 l.j.nv, .int .u16 l.j.nx, .int .u16 l.j.nl, .int .i64 l.j.ne, .int .i64 l.j.nk, .bool l.j.two, .slice p3 l.es.length c3] 30) = W := ⟨_, rfl⟩
    obtain ⟨A, hA⟩ : ∃ A, w2.heap.size = A := ⟨_, rfl⟩
    rw [hW, hA] at M ⊢
    clear hW hA
    have kA := block_cells M.out.a
    have kT := block_cells M.out.t
    have kZ := block_cells M.out.z
    have fZ := block_free M.out.z
    go_wp2_with fail
    refine (last_any l p c W HF.out.b0 HF.out.b1 HF.out.n).mono ?_
    rintro r w4 ⟨rfl, hb4⟩
    have M4 := Lib.hid (M.out.keep hb4)
    have kA4 := block_cells M4.out.a
    have kT4 := block_cells M4.out.t
    have kZ4 := block_cells M4.out.z
    have fZ4 := block_free M4.out.z
    clear hb4 kA kT kZ fZ
    go_wp2_with fail
    obtain ⟨kF, hend⟩ := M4.out.same HR
    unfold put14 at kF hend
    refine bodyPost_ret (v := .tuple #[.agg #[.int .i64 l.b, .int .i64 l.bt, .int .u16 l.j.ov, .int .u16 l.j.ox, .int .u16 l.j.ol, .int .i64 l.j.oe, .int .i64 l.j.ok, .int .u16 l.j.nv, .int .u16 l.j.nx, .int .u16 l.j.nl, .int .i64 l.j.ne, .int .i64 l.j.nk, .bool l.j.two, .slice p3 l.es.length c3], .int .i64 0, .bool false]) ?_ rfl hend
    simp [results, Tryz.results145, go_sem, kF]
  · have hlt : prev < 0 := by omega
    have hd : decide (l.last < prev) = false := by simpa using hgt
    have hd0 : decide (prev < 0) = true := by simpa using hlt
    clear ho
    go_enter Tryz.func145, Tryz.ntmps145
    go_wp2_with fail
    refine H3.out.mono ?_
    rintro r w2 ⟨p3, c3, rfl, M0⟩
    have M := Lib.hid M0
    clear M0
    go_upto_region 2 with fail
    obtain ⟨W, hW⟩ : ∃ W, w2.alloc (.cells #[.int .i64 l.b, .int .i64 l.bt, .int .u16 l.j.ov, .int .u16 l.j.ox, .int .u16 l.j.ol, .int .i64 l.j.oe, .int .i64 l.j.ok, .int .u16 l.j.nv, .int .u16 l.j.nx, .int .u16 l.j.nl, .int .i64 l.j.ne, .int .i64 l.j.nk, .bool l.j.two, .slice p3 l.es.length c3] 30) = W := ⟨_, rfl⟩
    obtain ⟨A, hA⟩ : ∃ A, w2.heap.size = A := ⟨_, rfl⟩
    rw [hW, hA] at M ⊢
    clear hW hA
    have kA := block_cells M.out.a
    have kT := block_cells M.out.t
    have kZ := block_cells M.out.z
    have fZ := block_free M.out.z
    go_wp2_with fail
    refine (last_any l p c W HF.out.b0 HF.out.b1 HF.out.n).mono ?_
    rintro r w4 ⟨rfl, hb4⟩
    have M4 := Lib.hid (M.out.keep hb4)
    have kA4 := block_cells M4.out.a
    have kT4 := block_cells M4.out.t
    have kZ4 := block_cells M4.out.z
    have fZ4 := block_free M4.out.z
    clear hb4 kA kT kZ fZ
    go_wp2_with fail
    obtain ⟨kF, hend⟩ := M4.out.same HR
    unfold put14 at kF hend
    refine bodyPost_ret (v := .tuple #[.agg #[.int .i64 l.b, .int .i64 l.bt, .int .u16 l.j.ov, .int .u16 l.j.ox, .int .u16 l.j.ol, .int .i64 l.j.oe, .int .i64 l.j.ok, .int .u16 l.j.nv, .int .u16 l.j.nx, .int .u16 l.j.nl, .int .i64 l.j.ne, .int .i64 l.j.nk, .bool l.j.two, .slice p3 l.es.length c3], .int .i64 0, .bool false]) ?_ rfl hend
    simp [results, Tryz.results145, go_sem, kF]
set_option maxRecDepth 100000 in
set_option maxHeartbeats 16000000 in
theorem merge_ref (l : Lg) (p : Option Addr) (c : Nat) (prev term : Int) (es : List Ent) (p2 : Option Addr) (c2 : Nat) (w : World) (hF : LgFit l) (hp : -9223372036854775808 ≤ prev ∧ prev ≤ 9223372036854775807) (hE : EnSl w (.slice p l.es.length c) l.es) (h2 : EnSl w (.slice p2 es.length c2) es) (hl : l.es.length + es.length ≤ 1000000) (hi : ¬ (l.last < prev ∨ prev < 0)) (hrf : refusedL l prev term es.length = true) :
    Calls Tryz.prog 145 #[.agg #[.int .i64 l.b, .int .i64 l.bt, .int .u16 l.j.ov, .int .u16 l.j.ox, .int .u16 l.j.ol, .int .i64 l.j.oe, .int .i64 l.j.ok, .int .u16 l.j.nv, .int .u16 l.j.nx, .int .u16 l.j.nl, .int .i64 l.j.ne, .int .i64 l.j.nk, .bool l.j.two, .slice p l.es.length c], .int .i64 prev, .int .i64 term, .slice p2 es.length c2] w (LgEnd3 w.heap.size w (mergeL l prev term es)) := by
  have HE := Lib.hid hE
  have H2 := Lib.hid h2
  have HF := Lib.hid hF
  have hb0 := hF.b0; have hb1 := hF.b1; have hn := hF.n
  have H3 := Lib.hid (MgW.start hE hn)
  have hsz2 : es.length ≤ 1000000 := by omega
  obtain ⟨hp0, hp1⟩ := hp
  have HR : Hid (mergeL l prev term es = (l, 0, false)) := by show _ = _; unfold mergeL; rw [if_neg hi, if_pos hrf]
  clear hE h2 hF
  have hgt : ¬ l.last < prev := fun h => hi (.inl h)
  have hge : 0 ≤ prev := by have : ¬ prev < 0 := fun h => hi (.inr h); omega
  have hd : decide (l.last < prev) = false := by simpa using hgt
  have hd0 : decide (prev < 0) = false := by simpa using hge
  obtain ⟨⟨T, b⟩, hT⟩ : ∃ x, termL l prev = x := ⟨_, rfl⟩
  have HT := Lib.hid hT
  unfold refusedL at hrf
  rw [hT] at hrf
  by_cases hb : l.b ≤ prev
  · have hbt : b = true := by have := termL_has hb (by omega); rw [hT] at this; exact this
    subst hbt
    have hne : T ≠ term := by
      intro e
      simp [e] at hrf
      omega
    have hd1 : decide (l.b ≤ prev) = true := by simpa using hb
    have hd2 : decide (prev < l.b) = false := by simpa using hb
    clear hi hrf hT
    go_enter Tryz.func145, Tryz.ntmps145
    go_wp2_with fail
    refine H3.out.mono ?_
    rintro r w2 ⟨p3, c3, rfl, M0⟩
    have M := Lib.hid M0
    clear M0
    go_upto_region 2 with fail
    obtain ⟨W, hW⟩ : ∃ W, w2.alloc (.cells #[.int .i64 l.b, .int .i64 l.bt, .int .u16 l.j.ov, .int .u16 l.j.ox, .int .u16 l.j.ol, .int .i64 l.j.oe, .int .i64 l.j.ok, .int .u16 l.j.nv, .int .u16 l.j.nx, .int .u16 l.j.nl, .int .i64 l.j.ne, .int .i64 l.j.nk, .bool l.j.two, .slice p3 l.es.length c3] 30) = W := ⟨_, rfl⟩
    obtain ⟨A, hA⟩ : ∃ A, w2.heap.size = A := ⟨_, rfl⟩
    rw [hW, hA] at M ⊢
    clear hW hA
    have kA := block_cells M.out.a
    have kT := block_cells M.out.t
    have kZ := block_cells M.out.z
    have fZ := block_free M.out.z
    go_wp2_with fail
    refine (last_any l p c W HF.out.b0 HF.out.b1 HF.out.n).mono ?_
    rintro r w4 ⟨rfl, hb4⟩
    have M4 := Lib.hid (M.out.keep hb4)
    have kA4 := block_cells M4.out.a
    have kT4 := block_cells M4.out.t
    have kZ4 := block_cells M4.out.z
    have fZ4 := block_free M4.out.z
    clear hb4 kA kT kZ fZ
    go_wp2_with fail
    refine (term_any l p c prev w4 HF.out.b0 HF.out.b1 HF.out.n hp0 hp1 (HE.out.keep M4.out.b (Nat.le_refl _)) HT).mono ?_
    rintro r w5 ⟨rfl, hb5⟩
    have M5 := Lib.hid (M4.out.keep hb5)
    have kA5 := block_cells M5.out.a
    have kT5 := block_cells M5.out.t
    have kZ5 := block_cells M5.out.z
    have fZ5 := block_free M5.out.z
    clear hb5 kA4 kT4 kZ4 fZ4
    go_wp2_with fail
    obtain ⟨kF, hend⟩ := M5.out.same HR
    unfold put14 at kF hend
    refine bodyPost_ret (v := .tuple #[.agg #[.int .i64 l.b, .int .i64 l.bt, .int .u16 l.j.ov, .int .u16 l.j.ox, .int .u16 l.j.ol, .int .i64 l.j.oe, .int .i64 l.j.ok, .int .u16 l.j.nv, .int .u16 l.j.nx, .int .u16 l.j.nl, .int .i64 l.j.ne, .int .i64 l.j.nk, .bool l.j.two, .slice p3 l.es.length c3], .int .i64 0, .bool false]) ?_ rfl hend
    simp [results, Tryz.results145, go_sem, kF]
  · have hlb : prev < l.b := by omega
    have hsh : (es.length : Int) < l.b - prev := by
      have h1 : decide (l.b ≤ prev) = false := by simpa using hb
      simpa [h1, hlb] using hrf
    have hd1 : decide (l.b ≤ prev) = false := by simpa using hb
    have hd2 : decide (prev < l.b) = true := by simpa using hlb
    clear hi hrf hT
    go_enter Tryz.func145, Tryz.ntmps145
    go_wp2_with fail
    refine H3.out.mono ?_
    rintro r w2 ⟨p3, c3, rfl, M0⟩
    have M := Lib.hid M0
    clear M0
    go_upto_region 2 with fail
    obtain ⟨W, hW⟩ : ∃ W, w2.alloc (.cells #[.int .i64 l.b, .int .i64 l.bt, .int .u16 l.j.ov, .int .u16 l.j.ox, .int .u16 l.j.ol, .int .i64 l.j.oe, .int .i64 l.j.ok, .int .u16 l.j.nv, .int .u16 l.j.nx, .int .u16 l.j.nl, .int .i64 l.j.ne, .int .i64 l.j.nk, .bool l.j.two, .slice p3 l.es.length c3] 30) = W := ⟨_, rfl⟩
    obtain ⟨A, hA⟩ : ∃ A, w2.heap.size = A := ⟨_, rfl⟩
    rw [hW, hA] at M ⊢
    clear hW hA
    have kA := block_cells M.out.a
    have kT := block_cells M.out.t
    have kZ := block_cells M.out.z
    have fZ := block_free M.out.z
    go_wp2_with fail
    refine (last_any l p c W HF.out.b0 HF.out.b1 HF.out.n).mono ?_
    rintro r w4 ⟨rfl, hb4⟩
    have M4 := Lib.hid (M.out.keep hb4)
    have kA4 := block_cells M4.out.a
    have kT4 := block_cells M4.out.t
    have kZ4 := block_cells M4.out.z
    have fZ4 := block_free M4.out.z
    clear hb4 kA kT kZ fZ
    go_wp2_with fail
    refine (term_any l p c prev w4 HF.out.b0 HF.out.b1 HF.out.n hp0 hp1 (HE.out.keep M4.out.b (Nat.le_refl _)) HT).mono ?_
    rintro r w5 ⟨rfl, hb5⟩
    have M5 := Lib.hid (M4.out.keep hb5)
    have kA5 := block_cells M5.out.a
    have kT5 := block_cells M5.out.t
    have kZ5 := block_cells M5.out.z
    have fZ5 := block_free M5.out.z
    clear hb5 kA4 kT4 kZ4 fZ4
    go_wp2_with fail
    obtain ⟨kF, hend⟩ := M5.out.same HR
    unfold put14 at kF hend
    refine bodyPost_ret (v := .tuple #[.agg #[.int .i64 l.b, .int .i64 l.bt, .int .u16 l.j.ov, .int .u16 l.j.ox, .int .u16 l.j.ol, .int .i64 l.j.oe, .int .i64 l.j.ok, .int .u16 l.j.nv, .int .u16 l.j.nx, .int .u16 l.j.nl, .int .i64 l.j.ne, .int .i64 l.j.nk, .bool l.j.two, .slice p3 l.es.length c3], .int .i64 0, .bool false]) ?_ rfl hend
    simp [results, Tryz.results145, go_sem, kF]
end Go.Proofs.YtbnndbdnejfehaaGreatDoor
/- entries: Merge, behind the base: no entries. -/
namespace Go.Proofs.YtbnndbdnejfehaaGreatDoor
open Go.ChangeShapes Go.WideShapes Go.ChangeAt Go.RowKit

set_option maxRecDepth 100000 in
set_option maxHeartbeats 16000000 in
theorem merge_high0 (l : Lg) (p : Option Addr) (c : Nat) (prev term : Int) (es : List Ent) (p2 : Option Addr) (c2 : Nat) (w : World) (hF : LgFit l) (hp : -9223372036854775808 ≤ prev ∧ prev ≤ 9223372036854775807) (hE : EnSl w (.slice p l.es.length c) l.es) (h2 : EnSl w (.slice p2 es.length c2) es) (hl : l.es.length + es.length ≤ 1000000) (hi : ¬ (l.last < prev ∨ prev < 0)) (hrf : refusedL l prev term es.length = false) (hb : l.b ≤ prev) (hz : es.length = 0) :
    Calls Tryz.prog 145 #[.agg #[.int .i64 l.b, .int .i64 l.bt, .int .u16 l.j.ov, .int .u16 l.j.ox, .int .u16 l.j.ol, .int .i64 l.j.oe, .int .i64 l.j.ok, .int .u16 l.j.nv, .int .u16 l.j.nx, .int .u16 l.j.nl, .int .i64 l.j.ne, .int .i64 l.j.nk, .bool l.j.two, .slice p l.es.length c], .int .i64 prev, .int .i64 term, .slice p2 es.length c2] w (LgEnd3 w.heap.size w (mergeL l prev term es)) := by
  have HE := Lib.hid hE
  have H2 := Lib.hid h2
  have HF := Lib.hid hF
  have hb0 := hF.b0; have hb1 := hF.b1; have hn := hF.n
  have H3 := Lib.hid (MgW.start hE hn)
  have hsz2 : es.length ≤ 1000000 := by omega
  obtain ⟨hp0, hp1⟩ := hp
  have hgt : ¬ l.last < prev := fun h => hi (.inl h)
  have hge : 0 ≤ prev := by have : ¬ prev < 0 := fun h => hi (.inr h); omega
  have hd : decide (l.last < prev) = false := by simpa using hgt
  have hd0 : decide (prev < 0) = false := by simpa using hge
  have hd2 : decide (prev < l.b) = false := by simpa using hb
  have hd1 : decide (l.b ≤ prev) = true := by simpa using hb
  have HR : Hid (mergeL l prev term es = (joinL l prev es, prev + es.length, true)) := by
    show _ = _; unfold mergeL; rw [if_neg hi, if_neg (by rw [hrf]; simp), if_neg (by omega)]
  obtain ⟨⟨T, b⟩, hT⟩ : ∃ x, termL l prev = x := ⟨_, rfl⟩
  have HT := Lib.hid hT
  have hbt : b = true := by have := termL_has hb (by omega); rw [hT] at this; exact this
  subst hbt
  have hTt : T = term := by
    unfold refusedL at hrf
    rw [hT] at hrf
    simp [hb] at hrf
    exact hrf.1
  subst hTt
  have HSUM : Hid (l.es.length + es.length ≤ 1000000) := hl
  have hlast : prev ≤ l.b + l.es.length := by unfold Lg.last at hgt; omega
  obtain rfl : es = [] := List.length_eq_zero_iff.1 hz
  have HX : Hid (mergeL l prev T [] = (l, prev, true)) := by
    show _ = _
    rw [HR.out]; unfold joinL cutAt; simp
  clear hi hrf hT hE h2 hF hl hz HR HSUM
  simp only [List.length_nil]
  go_enter Tryz.func145, Tryz.ntmps145
  go_wp2_with fail
  refine H3.out.mono ?_
  rintro r w2 ⟨p3, c3, rfl, M0⟩
  have M := Lib.hid M0
  clear M0
  go_upto_region 2 with fail
  obtain ⟨W, hW⟩ : ∃ W, w2.alloc (.cells #[.int .i64 l.b, .int .i64 l.bt, .int .u16 l.j.ov, .int .u16 l.j.ox, .int .u16 l.j.ol, .int .i64 l.j.oe, .int .i64 l.j.ok, .int .u16 l.j.nv, .int .u16 l.j.nx, .int .u16 l.j.nl, .int .i64 l.j.ne, .int .i64 l.j.nk, .bool l.j.two, .slice p3 l.es.length c3] 30) = W := ⟨_, rfl⟩
  obtain ⟨A, hA⟩ : ∃ A, w2.heap.size = A := ⟨_, rfl⟩
  rw [hW, hA] at M ⊢
  clear hW hA
  have kA := block_cells M.out.a
  have kT := block_cells M.out.t
  have kZ := block_cells M.out.z
  have fZ := block_free M.out.z
  go_wp2_with fail
  refine (last_any l p c W HF.out.b0 HF.out.b1 HF.out.n).mono ?_
  rintro r w4 ⟨rfl, hb4⟩
  have M4 := Lib.hid (M.out.keep hb4)
  have kA4 := block_cells M4.out.a
  have kT4 := block_cells M4.out.t
  have kZ4 := block_cells M4.out.z
  have fZ4 := block_free M4.out.z
  clear hb4 kA kT kZ fZ
  go_wp2_with fail
  refine (term_any l p c prev w4 HF.out.b0 HF.out.b1 HF.out.n hp0 hp1 (HE.out.keep M4.out.b (Nat.le_refl _)) HT).mono ?_
  rintro r w5 ⟨rfl, hb5⟩
  have M5 := Lib.hid (M4.out.keep hb5)
  have kA5 := block_cells M5.out.a
  have kT5 := block_cells M5.out.t
  have kZ5 := block_cells M5.out.z
  have fZ5 := block_free M5.out.z
  clear hb5 kA4 kT4 kZ4 fZ4
  go_upto_region 11 with fail
  go_wp2_with fail
  go_loopw [9, 85] (fun n9 i wr => n9 = .int .i64 prev ∧ i = .int .i64 0 ∧ w5 = wr) (fun _ i _ => 0)
  case atStart => exact ⟨by go_num, rfl, rfl⟩
  case round =>
    obtain ⟨rfl, rfl, rfl⟩ := hrel
    go_wp2_with fail
    obtain ⟨kF, hend⟩ := M5.out.same HX
    unfold put14 at kF hend
    refine bodyPost_ret (v := .tuple #[.agg #[.int .i64 l.b, .int .i64 l.bt, .int .u16 l.j.ov, .int .u16 l.j.ox, .int .u16 l.j.ol, .int .i64 l.j.oe, .int .i64 l.j.ok, .int .u16 l.j.nv, .int .u16 l.j.nx, .int .u16 l.j.nl, .int .i64 l.j.ne, .int .i64 l.j.nk, .bool l.j.two, .slice p3 l.es.length c3], .int .i64 prev, .bool true]) ?_ rfl hend
    simp [results, Tryz.results145, go_sem, kF]
end Go.Proofs.YtbnndbdnejfehaaGreatDoor
/- entries: Merge, behind the base (none). -/
namespace Go.Proofs.YtbnndbdnejfehaaGreatDoor
open Go.ChangeShapes Go.WideShapes Go.ChangeAt Go.RowKit

set_option maxRecDepth 100000 in
set_option maxHeartbeats 16000000 in
theorem merge_high_none (l : Lg) (p : Option Addr) (c : Nat) (prev term : Int) (es : List Ent) (p2 : Option Addr) (c2 : Nat) (w : World) (hF : LgFit l) (hp : -9223372036854775808 ≤ prev ∧ prev ≤ 9223372036854775807) (hE : EnSl w (.slice p l.es.length c) l.es) (h2 : EnSl w (.slice p2 es.length c2) es) (hl : l.es.length + es.length ≤ 1000000) (hi : ¬ (l.last < prev ∨ prev < 0)) (hrf : refusedL l prev term es.length = false) (hb : l.b ≤ prev) (hz : 0 < es.length) (hcut : ∀ j < es.length, badL l prev es j = false) :
    Calls Tryz.prog 145 #[.agg #[.int .i64 l.b, .int .i64 l.bt, .int .u16 l.j.ov, .int .u16 l.j.ox, .int .u16 l.j.ol, .int .i64 l.j.oe, .int .i64 l.j.ok, .int .u16 l.j.nv, .int .u16 l.j.nx, .int .u16 l.j.nl, .int .i64 l.j.ne, .int .i64 l.j.nk, .bool l.j.two, .slice p l.es.length c], .int .i64 prev, .int .i64 term, .slice p2 es.length c2] w (LgEnd3 w.heap.size w (mergeL l prev term es)) := by
  have HE := Lib.hid hE
  have H2 := Lib.hid h2
  have HF := Lib.hid hF
  have hb0 := hF.b0; have hb1 := hF.b1; have hn := hF.n
  have H3 := Lib.hid (MgW.start hE hn)
  have hsz2 : es.length ≤ 1000000 := by omega
  obtain ⟨hp0, hp1⟩ := hp
  have hgt : ¬ l.last < prev := fun h => hi (.inl h)
  have hge : 0 ≤ prev := by have : ¬ prev < 0 := fun h => hi (.inr h); omega
  have hd : decide (l.last < prev) = false := by simpa using hgt
  have hd0 : decide (prev < 0) = false := by simpa using hge
  have hd2 : decide (prev < l.b) = false := by simpa using hb
  have hd1 : decide (l.b ≤ prev) = true := by simpa using hb
  have HR : Hid (mergeL l prev term es = (joinL l prev es, prev + es.length, true)) := by
    show _ = _; unfold mergeL; rw [if_neg hi, if_neg (by rw [hrf]; simp), if_neg (by omega)]
  obtain ⟨⟨T, b⟩, hT⟩ : ∃ x, termL l prev = x := ⟨_, rfl⟩
  have HT := Lib.hid hT
  have hbt : b = true := by have := termL_has hb (by omega); rw [hT] at this; exact this
  subst hbt
  have hTt : T = term := by
    unfold refusedL at hrf
    rw [hT] at hrf
    simp [hb] at hrf
    exact hrf.1
  subst hTt
  have HSUM : Hid (l.es.length + es.length ≤ 1000000) := hl
  have hlast : prev ≤ l.b + l.es.length := by unfold Lg.last at hgt; omega
  obtain ⟨p2', c2', he2, hc21, hc22⟩ := h2.form
  simp only [Value.slice.injEq] at he2
  obtain ⟨rfl, -, rfl⟩ := he2
  have HCAP := Lib.hid hc21
  obtain ⟨g, o, cap, hv, -, -⟩ := h2.at 0 hz
  simp only [Value.slice.injEq, true_and] at hv
  obtain ⟨rfl, -⟩ := hv
  have HG := Lib.hid hcut
  clear hi hrf hT hE h2 hF hl hz hc21 hcut
  go_enter Tryz.func145, Tryz.ntmps145
  go_wp2_with fail
  refine H3.out.mono ?_
  rintro r w2 ⟨p3, c3, rfl, M0⟩
  have M := Lib.hid M0
  clear M0
  go_upto_region 2 with fail
  obtain ⟨W, hW⟩ : ∃ W, w2.alloc (.cells #[.int .i64 l.b, .int .i64 l.bt, .int .u16 l.j.ov, .int .u16 l.j.ox, .int .u16 l.j.ol, .int .i64 l.j.oe, .int .i64 l.j.ok, .int .u16 l.j.nv, .int .u16 l.j.nx, .int .u16 l.j.nl, .int .i64 l.j.ne, .int .i64 l.j.nk, .bool l.j.two, .slice p3 l.es.length c3] 30) = W := ⟨_, rfl⟩
  obtain ⟨A, hA⟩ : ∃ A, w2.heap.size = A := ⟨_, rfl⟩
  rw [hW, hA] at M ⊢
  clear hW hA
  have kA := block_cells M.out.a
  have kT := block_cells M.out.t
  have kZ := block_cells M.out.z
  have fZ := block_free M.out.z
  go_wp2_with fail
  refine (last_any l p c W HF.out.b0 HF.out.b1 HF.out.n).mono ?_
  rintro r w4 ⟨rfl, hb4⟩
  have M4 := Lib.hid (M.out.keep hb4)
  have kA4 := block_cells M4.out.a
  have kT4 := block_cells M4.out.t
  have kZ4 := block_cells M4.out.z
  have fZ4 := block_free M4.out.z
  clear hb4 kA kT kZ fZ
  go_wp2_with fail
  refine (term_any l p c prev w4 HF.out.b0 HF.out.b1 HF.out.n hp0 hp1 (HE.out.keep M4.out.b (Nat.le_refl _)) HT).mono ?_
  rintro r w5 ⟨rfl, hb5⟩
  have M5 := Lib.hid (M4.out.keep hb5)
  have kA5 := block_cells M5.out.a
  have kT5 := block_cells M5.out.t
  have kZ5 := block_cells M5.out.z
  have fZ5 := block_free M5.out.z
  clear hb5 kA4 kT4 kZ4 fZ4
  go_upto_region 11 with fail
  go_wp2_with fail
  go_loopw [9, 85] (fun n9 i wr => n9 = .int .i64 (prev + es.length) ∧ ∃ k : Nat, k ≤ es.length ∧ i = .int .i64 k ∧ Hid (Below w5.heap.size w5 wr)) (fun _ i _ => es.length - (intOf i).toNat)
  case atStart => exact ⟨rfl, 0, Nat.zero_le _, rfl, Below.refl _ _⟩
  case round =>
    obtain ⟨rfl, k, hk, rfl, HB⟩ := hrel
    obtain ⟨wk, rfl⟩ : ∃ wk : World, wk = wr := ⟨_, rfl⟩
    have M6 := Lib.hid (M5.out.keep HB.out)
    have kA6 := block_cells M6.out.a
    have kT6 := block_cells M6.out.t
    have kZ6 := block_cells M6.out.z
    have fZ6 := block_free M6.out.z
    clear kA5 kT5 kZ5 fZ5
    by_cases hlt : k < es.length
    · have hlE : k < es.length := hlt
      obtain ⟨hgl, hc⟩ := (H2.out.keep M6.out.b (Nat.le_refl _)).cells k hlE
      obtain ⟨e, he⟩ : ∃ e, es[k] = e := ⟨_, rfl⟩
      have hgd : (es.getD k ent0).t = e.t := by rw [← he]; simp [List.getD, List.getElem?_eq_getElem hlE]
      rw [he] at hc
      have hq0 : wk.cell? ⟨g, o + k * 14, none⟩ = some (.int .i64 e.t) := hc 0 (by decide)
      have hq1 : wk.cell? ⟨g, o + k * 14 + 1, none⟩ = some (.int .i64 e.k) := hc 1 (by decide)
      have hq2 : wk.cell? ⟨g, o + k * 14 + 2, none⟩ = some (.string e.d) := hc 2 (by decide)
      have hq3 : wk.cell? ⟨g, o + k * 14 + 3, none⟩ = some (.int .u16 e.j.ov) := hc 3 (by decide)
      have hq4 : wk.cell? ⟨g, o + k * 14 + 4, none⟩ = some (.int .u16 e.j.ox) := hc 4 (by decide)
      have hq5 : wk.cell? ⟨g, o + k * 14 + 5, none⟩ = some (.int .u16 e.j.ol) := hc 5 (by decide)
      have hq6 : wk.cell? ⟨g, o + k * 14 + 6, none⟩ = some (.int .i64 e.j.oe) := hc 6 (by decide)
      have hq7 : wk.cell? ⟨g, o + k * 14 + 7, none⟩ = some (.int .i64 e.j.ok) := hc 7 (by decide)
      have hq8 : wk.cell? ⟨g, o + k * 14 + 8, none⟩ = some (.int .u16 e.j.nv) := hc 8 (by decide)
      have hq9 : wk.cell? ⟨g, o + k * 14 + 9, none⟩ = some (.int .u16 e.j.nx) := hc 9 (by decide)
      have hq10 : wk.cell? ⟨g, o + k * 14 + 10, none⟩ = some (.int .u16 e.j.nl) := hc 10 (by decide)
      have hq11 : wk.cell? ⟨g, o + k * 14 + 11, none⟩ = some (.int .i64 e.j.ne) := hc 11 (by decide)
      have hq12 : wk.cell? ⟨g, o + k * 14 + 12, none⟩ = some (.int .i64 e.j.nk) := hc 12 (by decide)
      have hq13 : wk.cell? ⟨g, o + k * 14 + 13, none⟩ = some (.bool e.j.two) := hc 13 (by decide)
      have hd3 : decide ((k : Int) < (es.length : Nat)) = true := by simp; omega
      have hV := Lib.hid (heap_last wk (.cells #[.int .i64 e.t, .int .i64 e.k, .string e.d, .int .u16 e.j.ov, .int .u16 e.j.ox, .int .u16 e.j.ol, .int .i64 e.j.oe, .int .i64 e.j.ok, .int .u16 e.j.nv, .int .u16 e.j.nx, .int .u16 e.j.nl, .int .i64 e.j.ne, .int .i64 e.j.nk, .bool e.j.two] 47))
      have M7 := Lib.hid (M6.out.alloc (.cells #[.int .i64 e.t, .int .i64 e.k, .string e.d, .int .u16 e.j.ov, .int .u16 e.j.ox, .int .u16 e.j.ol, .int .i64 e.j.oe, .int .i64 e.j.ok, .int .u16 e.j.nv, .int .u16 e.j.nx, .int .u16 e.j.nl, .int .i64 e.j.ne, .int .i64 e.j.nk, .bool e.j.two] 47))
      obtain ⟨⟨T2, b2⟩, hT2⟩ : ∃ x, termL l (prev + 1 + k) = x := ⟨_, rfl⟩
      have hbad : Hid (badL l prev es k = ((T2, b2) != (e.t, true))) := by show _ = _; unfold badL; rw [hT2, hgd]
      have HC2 := Lib.hid (term_any l p c (prev + 1 + k) _ HF.out.b0 HF.out.b1 HF.out.n (by omega) (by omega) (HE.out.keep M7.out.b (Nat.le_refl _)) hT2)
      have kA7 := block_cells M7.out.a
      have kT7 := block_cells M7.out.t
      have kZ7 := block_cells M7.out.z
      have fZ7 := block_free M7.out.z
      obtain ⟨rfl, rfl⟩ : b2 = true ∧ T2 = e.t := by
        have := HG.out k hlE
        rw [hbad.out] at this
        simp only [bne_eq_false_iff_eq, Prod.mk.injEq] at this
        exact ⟨this.2, this.1⟩
      clear hbad hgl hc he hgd hT2
      go_wp2_with fail
      refine HC2.out.mono ?_
      rintro r w7 ⟨rfl, hb7⟩
      have M8 := Lib.hid (M7.out.keep hb7)
      have kE8 := block_cells (below_block hb7 (block_lt hV.out) hV.out)
      have kA8 := block_cells M8.out.a
      have kT8 := block_cells M8.out.t
      have kZ8 := block_cells M8.out.z
      have fZ8 := block_free M8.out.z
      have HB8 : Hid (Below w5.heap.size w5 w7) := (HB.out.alloc HB.out.size _).trans (hb7.mono (Nat.le_trans HB.out.size (by simp)))
      clear hb7 kA6 kT6 kZ6 fZ6 kA7 kT7 kZ7 fZ7
      go_wp2_with fail
      go_roundw
      case rel => exact ⟨rfl, k + 1, by omega, by go_num, HB8⟩
      case measure => simp [intOf]; omega
    · obtain rfl : k = es.length := by omega
      have HX : Hid (mergeL l prev T es = (l, prev + es.length, true)) := by
        show _ = _
        rw [HR.out]
        unfold joinL
        rw [cutAt_none HG.out]
      go_wp2_with fail
      obtain ⟨kF, hend⟩ := M6.out.same HX
      unfold put14 at kF hend
      refine bodyPost_ret (v := .tuple #[.agg #[.int .i64 l.b, .int .i64 l.bt, .int .u16 l.j.ov, .int .u16 l.j.ox, .int .u16 l.j.ol, .int .i64 l.j.oe, .int .i64 l.j.ok, .int .u16 l.j.nv, .int .u16 l.j.nx, .int .u16 l.j.nl, .int .i64 l.j.ne, .int .i64 l.j.nk, .bool l.j.two, .slice p3 l.es.length c3], .int .i64 (prev + es.length), .bool true]) ?_ rfl hend
      simp [results, Tryz.results145, go_sem, kF]
end Go.Proofs.YtbnndbdnejfehaaGreatDoor
/- entries: Merge, from ahead of the base: nothing is left. -/
namespace Go.Proofs.YtbnndbdnejfehaaGreatDoor
open Go.ChangeShapes Go.WideShapes Go.ChangeAt Go.RowKit

set_option maxRecDepth 100000 in
set_option maxHeartbeats 16000000 in
theorem merge_low0 (l : Lg) (p : Option Addr) (c : Nat) (prev term : Int) (es : List Ent) (p2 : Option Addr) (c2 : Nat) (w : World) (hF : LgFit l) (hp : -9223372036854775808 ≤ prev ∧ prev ≤ 9223372036854775807) (hE : EnSl w (.slice p l.es.length c) l.es) (h2 : EnSl w (.slice p2 es.length c2) es) (hl : l.es.length + es.length ≤ 1000000) (hi : ¬ (l.last < prev ∨ prev < 0)) (hrf : refusedL l prev term es.length = false) (hb : prev < l.b) (hz : es.length ≤ (l.b - prev).toNat) :
    Calls Tryz.prog 145 #[.agg #[.int .i64 l.b, .int .i64 l.bt, .int .u16 l.j.ov, .int .u16 l.j.ox, .int .u16 l.j.ol, .int .i64 l.j.oe, .int .i64 l.j.ok, .int .u16 l.j.nv, .int .u16 l.j.nx, .int .u16 l.j.nl, .int .i64 l.j.ne, .int .i64 l.j.nk, .bool l.j.two, .slice p l.es.length c], .int .i64 prev, .int .i64 term, .slice p2 es.length c2] w (LgEnd3 w.heap.size w (mergeL l prev term es)) := by
  have HE := Lib.hid hE
  have H2 := Lib.hid h2
  have HF := Lib.hid hF
  have hb0 := hF.b0; have hb1 := hF.b1; have hn := hF.n
  have H3 := Lib.hid (MgW.start hE hn)
  have hsz2 : es.length ≤ 1000000 := by omega
  obtain ⟨hp0, hp1⟩ := hp
  have hgt : ¬ l.last < prev := fun h => hi (.inl h)
  have hge : 0 ≤ prev := by have : ¬ prev < 0 := fun h => hi (.inr h); omega
  have hd : decide (l.last < prev) = false := by simpa using hgt
  have hd0 : decide (prev < 0) = false := by simpa using hge
  have hd2 : decide (prev < l.b) = true := by simpa using hb
  have hd1 : decide (l.b ≤ prev) = false := by simpa using hb
  obtain ⟨⟨T, b⟩, hT⟩ : ∃ x, termL l prev = x := ⟨_, rfl⟩
  have HT := Lib.hid hT
  obtain ⟨d, hdd⟩ := Int.eq_ofNat_of_zero_le (show 0 ≤ l.b - prev by omega)
  have hdl : d ≤ es.length := by
    unfold refusedL at hrf
    simp [hb] at hrf
    omega
  have hd5 : decide ((es.length : Int) < (d : Int)) = false := by simp; omega
  obtain ⟨E, hEd⟩ : ∃ E, es.drop d = E := ⟨_, rfl⟩
  have HR : Hid (mergeL l prev term es = (joinL l l.b E, prev + es.length, true)) := by
    show _ = _; unfold mergeL; rw [if_neg hi, if_neg (by rw [hrf]; simp), if_pos hb, hdd, Int.toNat_natCast, hEd]
  have HLEN : Hid (E.length = es.length - d) := by show _ = _; rw [← hEd, List.length_drop]
  have HSUM : Hid (l.es.length + E.length ≤ 1000000) := by show _ ≤ _; rw [HLEN.out]; omega
  obtain ⟨p2', c2', he2, hc21, hc22⟩ := h2.form
  simp only [Value.slice.injEq] at he2
  obtain ⟨rfl, -, rfl⟩ := he2
  have hdc : d ≤ c2 := by omega
  have hz' : d = es.length := by omega
  have HX : Hid (mergeL l prev term es = (l, prev + es.length, true)) := by
    show _ = _
    obtain rfl : E = [] := List.length_eq_zero_iff.1 (by rw [HLEN.out]; omega)
    rw [HR.out]; unfold joinL cutAt; simp
  have HDD := Lib.hid hdd
  clear hi hrf hT hE h2 hF hl hz HR HSUM hEd HLEN
  by_cases hcd : c2 = es.length
  · subst hz'
    go_enter Tryz.func145, Tryz.ntmps145
    go_wp2_with fail
    refine H3.out.mono ?_
    rintro r w2 ⟨p3, c3, rfl, M0⟩
    have M := Lib.hid M0
    clear M0
    go_upto_region 2 with fail
    obtain ⟨W, hW⟩ : ∃ W, w2.alloc (.cells #[.int .i64 l.b, .int .i64 l.bt, .int .u16 l.j.ov, .int .u16 l.j.ox, .int .u16 l.j.ol, .int .i64 l.j.oe, .int .i64 l.j.ok, .int .u16 l.j.nv, .int .u16 l.j.nx, .int .u16 l.j.nl, .int .i64 l.j.ne, .int .i64 l.j.nk, .bool l.j.two, .slice p3 l.es.length c3] 30) = W := ⟨_, rfl⟩
    obtain ⟨A, hA⟩ : ∃ A, w2.heap.size = A := ⟨_, rfl⟩
    rw [hW, hA] at M ⊢
    clear hW hA
    have kA := block_cells M.out.a
    have kT := block_cells M.out.t
    have kZ := block_cells M.out.z
    have fZ := block_free M.out.z
    go_wp2_with fail
    refine (last_any l p c W HF.out.b0 HF.out.b1 HF.out.n).mono ?_
    rintro r w4 ⟨rfl, hb4⟩
    have M4 := Lib.hid (M.out.keep hb4)
    have kA4 := block_cells M4.out.a
    have kT4 := block_cells M4.out.t
    have kZ4 := block_cells M4.out.z
    have fZ4 := block_free M4.out.z
    clear hb4 kA kT kZ fZ
    go_wp2_with fail
    refine (term_any l p c prev w4 HF.out.b0 HF.out.b1 HF.out.n hp0 hp1 (HE.out.keep M4.out.b (Nat.le_refl _)) HT).mono ?_
    rintro r w5 ⟨rfl, hb5⟩
    have M5 := Lib.hid (M4.out.keep hb5)
    have kA5 := block_cells M5.out.a
    have kT5 := block_cells M5.out.t
    have kZ5 := block_cells M5.out.z
    have fZ5 := block_free M5.out.z
    clear hb5 kA4 kT4 kZ4 fZ4
    go_upto_region 9 with fail
    go_wp2_with fail
    go_loopw [9, 85] (fun n9 i wr => n9 = .int .i64 (prev + es.length) ∧ i = .int .i64 0 ∧ w5 = wr) (fun _ i _ => 0)
    case atStart => exact ⟨by go_num, rfl, rfl⟩
    case round =>
      obtain ⟨rfl, rfl, rfl⟩ := hrel
      go_wp2_with fail
      obtain ⟨kF, hend⟩ := M5.out.same HX
      unfold put14 at kF hend
      refine bodyPost_ret (v := .tuple #[.agg #[.int .i64 l.b, .int .i64 l.bt, .int .u16 l.j.ov, .int .u16 l.j.ox, .int .u16 l.j.ol, .int .i64 l.j.oe, .int .i64 l.j.ok, .int .u16 l.j.nv, .int .u16 l.j.nx, .int .u16 l.j.nl, .int .i64 l.j.ne, .int .i64 l.j.nk, .bool l.j.two, .slice p3 l.es.length c3], .int .i64 (prev + es.length), .bool true]) ?_ rfl hend
      simp [results, Tryz.results145, go_sem, kF]
  · subst hz'
    go_enter Tryz.func145, Tryz.ntmps145
    go_wp2_with fail
    refine H3.out.mono ?_
    rintro r w2 ⟨p3, c3, rfl, M0⟩
    have M := Lib.hid M0
    clear M0
    go_upto_region 2 with fail
    obtain ⟨W, hW⟩ : ∃ W, w2.alloc (.cells #[.int .i64 l.b, .int .i64 l.bt, .int .u16 l.j.ov, .int .u16 l.j.ox, .int .u16 l.j.ol, .int .i64 l.j.oe, .int .i64 l.j.ok, .int .u16 l.j.nv, .int .u16 l.j.nx, .int .u16 l.j.nl, .int .i64 l.j.ne, .int .i64 l.j.nk, .bool l.j.two, .slice p3 l.es.length c3] 30) = W := ⟨_, rfl⟩
    obtain ⟨A, hA⟩ : ∃ A, w2.heap.size = A := ⟨_, rfl⟩
    rw [hW, hA] at M ⊢
    clear hW hA
    have kA := block_cells M.out.a
    have kT := block_cells M.out.t
    have kZ := block_cells M.out.z
    have fZ := block_free M.out.z
    go_wp2_with fail
    refine (last_any l p c W HF.out.b0 HF.out.b1 HF.out.n).mono ?_
    rintro r w4 ⟨rfl, hb4⟩
    have M4 := Lib.hid (M.out.keep hb4)
    have kA4 := block_cells M4.out.a
    have kT4 := block_cells M4.out.t
    have kZ4 := block_cells M4.out.z
    have fZ4 := block_free M4.out.z
    clear hb4 kA kT kZ fZ
    go_wp2_with fail
    refine (term_any l p c prev w4 HF.out.b0 HF.out.b1 HF.out.n hp0 hp1 (HE.out.keep M4.out.b (Nat.le_refl _)) HT).mono ?_
    rintro r w5 ⟨rfl, hb5⟩
    have M5 := Lib.hid (M4.out.keep hb5)
    have kA5 := block_cells M5.out.a
    have kT5 := block_cells M5.out.t
    have kZ5 := block_cells M5.out.z
    have fZ5 := block_free M5.out.z
    clear hb5 kA4 kT4 kZ4 fZ4
    go_upto_region 9 with fail
    go_wp2_with fail
    go_loopw [9, 85] (fun n9 i wr => n9 = .int .i64 (prev + es.length) ∧ i = .int .i64 0 ∧ w5 = wr) (fun _ i _ => 0)
    case atStart => exact ⟨by go_num, rfl, rfl⟩
    case round =>
      obtain ⟨rfl, rfl, rfl⟩ := hrel
      go_wp2_with fail
      obtain ⟨kF, hend⟩ := M5.out.same HX
      unfold put14 at kF hend
      refine bodyPost_ret (v := .tuple #[.agg #[.int .i64 l.b, .int .i64 l.bt, .int .u16 l.j.ov, .int .u16 l.j.ox, .int .u16 l.j.ol, .int .i64 l.j.oe, .int .i64 l.j.ok, .int .u16 l.j.nv, .int .u16 l.j.nx, .int .u16 l.j.nl, .int .i64 l.j.ne, .int .i64 l.j.nk, .bool l.j.two, .slice p3 l.es.length c3], .int .i64 (prev + es.length), .bool true]) ?_ rfl hend
      simp [results, Tryz.results145, go_sem, kF]
end Go.Proofs.YtbnndbdnejfehaaGreatDoor
/- entries: Merge, behind the base (false). -/
namespace Go.Proofs.YtbnndbdnejfehaaGreatDoor
open Go.ChangeShapes Go.WideShapes Go.ChangeAt Go.RowKit

set_option maxRecDepth 100000 in
set_option maxHeartbeats 16000000 in
theorem merge_high_false (l : Lg) (p : Option Addr) (c : Nat) (prev term : Int) (es : List Ent) (p2 : Option Addr) (c2 : Nat) (w : World) (hF : LgFit l) (hp : -9223372036854775808 ≤ prev ∧ prev ≤ 9223372036854775807) (hE : EnSl w (.slice p l.es.length c) l.es) (h2 : EnSl w (.slice p2 es.length c2) es) (hl : l.es.length + es.length ≤ 1000000) (hi : ¬ (l.last < prev ∨ prev < 0)) (hrf : refusedL l prev term es.length = false) (hb : l.b ≤ prev) (hz : 0 < es.length) (k0 : Nat) (hk0 : k0 < es.length) (hcut : ∀ j < k0, badL l prev es j = false) (hbd : badL l prev es k0 = true) (hb2 : (termL l (prev + 1 + k0)).2 = false) :
    Calls Tryz.prog 145 #[.agg #[.int .i64 l.b, .int .i64 l.bt, .int .u16 l.j.ov, .int .u16 l.j.ox, .int .u16 l.j.ol, .int .i64 l.j.oe, .int .i64 l.j.ok, .int .u16 l.j.nv, .int .u16 l.j.nx, .int .u16 l.j.nl, .int .i64 l.j.ne, .int .i64 l.j.nk, .bool l.j.two, .slice p l.es.length c], .int .i64 prev, .int .i64 term, .slice p2 es.length c2] w (LgEnd3 w.heap.size w (mergeL l prev term es)) := by
  have HE := Lib.hid hE
  have H2 := Lib.hid h2
  have HF := Lib.hid hF
  have hb0 := hF.b0; have hb1 := hF.b1; have hn := hF.n
  have H3 := Lib.hid (MgW.start hE hn)
  have hsz2 : es.length ≤ 1000000 := by omega
  obtain ⟨hp0, hp1⟩ := hp
  have hgt : ¬ l.last < prev := fun h => hi (.inl h)
  have hge : 0 ≤ prev := by have : ¬ prev < 0 := fun h => hi (.inr h); omega
  have hd : decide (l.last < prev) = false := by simpa using hgt
  have hd0 : decide (prev < 0) = false := by simpa using hge
  have hd2 : decide (prev < l.b) = false := by simpa using hb
  have hd1 : decide (l.b ≤ prev) = true := by simpa using hb
  have HR : Hid (mergeL l prev term es = (joinL l prev es, prev + es.length, true)) := by
    show _ = _; unfold mergeL; rw [if_neg hi, if_neg (by rw [hrf]; simp), if_neg (by omega)]
  obtain ⟨⟨T, b⟩, hT⟩ : ∃ x, termL l prev = x := ⟨_, rfl⟩
  have HT := Lib.hid hT
  have hbt : b = true := by have := termL_has hb (by omega); rw [hT] at this; exact this
  subst hbt
  have hTt : T = term := by
    unfold refusedL at hrf
    rw [hT] at hrf
    simp [hb] at hrf
    exact hrf.1
  subst hTt
  have HSUM : Hid (l.es.length + es.length ≤ 1000000) := hl
  have hlast : prev ≤ l.b + l.es.length := by unfold Lg.last at hgt; omega
  obtain ⟨p2', c2', he2, hc21, hc22⟩ := h2.form
  simp only [Value.slice.injEq] at he2
  obtain ⟨rfl, -, rfl⟩ := he2
  have HCAP := Lib.hid hc21
  obtain ⟨g, o, cap, hv, -, -⟩ := h2.at 0 hz
  simp only [Value.slice.injEq, true_and] at hv
  obtain ⟨rfl, -⟩ := hv
  have HG := Lib.hid hcut
  have HBD := Lib.hid hbd
  have HB2 := Lib.hid hb2
  have hkE : k0 < es.length := hk0
  have hmk : prev - l.b + k0 ≤ l.es.length := by
    rcases Nat.eq_zero_or_pos k0 with h0 | h0
    · unfold Lg.last at *; omega
    · have hj := HG.out (k0 - 1) (by omega)
      unfold badL at hj
      have h1 : (termL l (prev + 1 + ((k0 - 1 : Nat) : Int))).2 = true := by simp only [bne_eq_false_iff_eq] at hj; rw [hj]
      have h2 := (termL_known h1).2
      unfold Lg.last at h2
      omega
  obtain ⟨m, hm⟩ := Int.eq_ofNat_of_zero_le (show 0 ≤ prev - l.b by omega)
  have hml : m + k0 ≤ l.es.length := by omega
  obtain ⟨f, hf⟩ : ∃ f, frontL l (m + k0) (es.drop k0) = f := ⟨_, rfl⟩
  have HX : Hid (mergeL l prev T es = (f, prev + es.length, true)) := by
    show _ = _
    rw [HR.out]
    unfold joinL
    rw [cutAt_some hkE HBD.out HG.out]
    simp only
    rw [hm, ← Int.natCast_add, Int.toNat_natCast, hf]
  have HFR : Hid (∀ (p3 : Option Addr) (c3 A : Nat) (W : World), MgW w l p c p3 c3 A W → Calls Tryz.prog 137 #[.agg #[.int .i64 l.b, .int .i64 l.bt, .int .u16 l.j.ov, .int .u16 l.j.ox, .int .u16 l.j.ol, .int .i64 l.j.oe, .int .i64 l.j.ok, .int .u16 l.j.nv, .int .u16 l.j.nx, .int .u16 l.j.nl, .int .i64 l.j.ne, .int .i64 l.j.nk, .bool l.j.two, .slice p l.es.length c], .int .i64 ((m + k0 : Nat) : Int), .slice (some ⟨g, o + k0 * 14, none⟩) (es.length - k0) (c2 - k0)] W.drew fun r w' => ∃ p5 c5, r = .returned (.agg #[.int .i64 f.b, .int .i64 f.bt, .int .u16 f.j.ov, .int .u16 f.j.ox, .int .u16 f.j.ol, .int .i64 f.j.oe, .int .i64 f.j.ok, .int .u16 f.j.nv, .int .u16 f.j.nx, .int .u16 f.j.nl, .int .i64 f.j.ne, .int .i64 f.j.nk, .bool f.j.two, .slice p5 f.es.length c5]) ∧ w'.ownsRow W.heap.size 47 14 (.slice p5 f.es.length c5) f.es.length (entRow f.es) ∧ Below W.heap.size W w') := fun _ _ _ _ M => M.taken HE.out H2.out hkE hml HSUM.out hf (show Hid (es.length = es.length) from rfl)
  have hw1 : IntKind.i64.wrap (prev - l.b) = (m : Int) := by rw [hm]; exact wrap_ok (by omega) (by omega)
  have hw2 : IntKind.i64.wrap ((m : Int) + (k0 : Int)) = ((m + k0 : Nat) : Int) := by rw [wrap_ok (by omega) (by omega), Int.natCast_add]
  have hck : ¬ c2 = k0 := by have := HCAP.out; omega
  have hkn : k0 ≤ c2 := by have := HCAP.out; omega
  clear hf hmk hm
  clear hi hrf hT hE h2 hF hl hz hc21 hcut hbd hb2 hkE
  go_enter Tryz.func145, Tryz.ntmps145
  go_wp2_with fail
  refine H3.out.mono ?_
  rintro r w2 ⟨p3, c3, rfl, M0⟩
  have M := Lib.hid M0
  clear M0
  go_upto_region 2 with fail
  obtain ⟨W, hW⟩ : ∃ W, w2.alloc (.cells #[.int .i64 l.b, .int .i64 l.bt, .int .u16 l.j.ov, .int .u16 l.j.ox, .int .u16 l.j.ol, .int .i64 l.j.oe, .int .i64 l.j.ok, .int .u16 l.j.nv, .int .u16 l.j.nx, .int .u16 l.j.nl, .int .i64 l.j.ne, .int .i64 l.j.nk, .bool l.j.two, .slice p3 l.es.length c3] 30) = W := ⟨_, rfl⟩
  obtain ⟨A, hA⟩ : ∃ A, w2.heap.size = A := ⟨_, rfl⟩
  rw [hW, hA] at M ⊢
  clear hW hA
  have kA := block_cells M.out.a
  have kT := block_cells M.out.t
  have kZ := block_cells M.out.z
  have fZ := block_free M.out.z
  go_wp2_with fail
  refine (last_any l p c W HF.out.b0 HF.out.b1 HF.out.n).mono ?_
  rintro r w4 ⟨rfl, hb4⟩
  have M4 := Lib.hid (M.out.keep hb4)
  have kA4 := block_cells M4.out.a
  have kT4 := block_cells M4.out.t
  have kZ4 := block_cells M4.out.z
  have fZ4 := block_free M4.out.z
  clear hb4 kA kT kZ fZ
  go_wp2_with fail
  refine (term_any l p c prev w4 HF.out.b0 HF.out.b1 HF.out.n hp0 hp1 (HE.out.keep M4.out.b (Nat.le_refl _)) HT).mono ?_
  rintro r w5 ⟨rfl, hb5⟩
  have M5 := Lib.hid (M4.out.keep hb5)
  have kA5 := block_cells M5.out.a
  have kT5 := block_cells M5.out.t
  have kZ5 := block_cells M5.out.z
  have fZ5 := block_free M5.out.z
  clear hb5 kA4 kT4 kZ4 fZ4
  go_upto_region 11 with fail
  go_wp2_with fail
  go_loopw [9, 85] (fun n9 i wr => n9 = .int .i64 (prev + es.length) ∧ ∃ k : Nat, k ≤ k0 ∧ i = .int .i64 k ∧ Hid (Below w5.heap.size w5 wr)) (fun _ i _ => es.length - (intOf i).toNat)
  case atStart => exact ⟨rfl, 0, Nat.zero_le _, rfl, Below.refl _ _⟩
  case round =>
    obtain ⟨rfl, k, hk, rfl, HB⟩ := hrel
    obtain ⟨wk, rfl⟩ : ∃ wk : World, wk = wr := ⟨_, rfl⟩
    have M6 := Lib.hid (M5.out.keep HB.out)
    have kA6 := block_cells M6.out.a
    have kT6 := block_cells M6.out.t
    have kZ6 := block_cells M6.out.z
    have fZ6 := block_free M6.out.z
    clear kA5 kT5 kZ5 fZ5
    have hlt : k < es.length := by omega
    have hlE : k < es.length := hlt
    obtain ⟨hgl, hc⟩ := (H2.out.keep M6.out.b (Nat.le_refl _)).cells k hlE
    obtain ⟨e, he⟩ : ∃ e, es[k] = e := ⟨_, rfl⟩
    have hgd : (es.getD k ent0).t = e.t := by rw [← he]; simp [List.getD, List.getElem?_eq_getElem hlE]
    rw [he] at hc
    have hq0 : wk.cell? ⟨g, o + k * 14, none⟩ = some (.int .i64 e.t) := hc 0 (by decide)
    have hq1 : wk.cell? ⟨g, o + k * 14 + 1, none⟩ = some (.int .i64 e.k) := hc 1 (by decide)
    have hq2 : wk.cell? ⟨g, o + k * 14 + 2, none⟩ = some (.string e.d) := hc 2 (by decide)
    have hq3 : wk.cell? ⟨g, o + k * 14 + 3, none⟩ = some (.int .u16 e.j.ov) := hc 3 (by decide)
    have hq4 : wk.cell? ⟨g, o + k * 14 + 4, none⟩ = some (.int .u16 e.j.ox) := hc 4 (by decide)
    have hq5 : wk.cell? ⟨g, o + k * 14 + 5, none⟩ = some (.int .u16 e.j.ol) := hc 5 (by decide)
    have hq6 : wk.cell? ⟨g, o + k * 14 + 6, none⟩ = some (.int .i64 e.j.oe) := hc 6 (by decide)
    have hq7 : wk.cell? ⟨g, o + k * 14 + 7, none⟩ = some (.int .i64 e.j.ok) := hc 7 (by decide)
    have hq8 : wk.cell? ⟨g, o + k * 14 + 8, none⟩ = some (.int .u16 e.j.nv) := hc 8 (by decide)
    have hq9 : wk.cell? ⟨g, o + k * 14 + 9, none⟩ = some (.int .u16 e.j.nx) := hc 9 (by decide)
    have hq10 : wk.cell? ⟨g, o + k * 14 + 10, none⟩ = some (.int .u16 e.j.nl) := hc 10 (by decide)
    have hq11 : wk.cell? ⟨g, o + k * 14 + 11, none⟩ = some (.int .i64 e.j.ne) := hc 11 (by decide)
    have hq12 : wk.cell? ⟨g, o + k * 14 + 12, none⟩ = some (.int .i64 e.j.nk) := hc 12 (by decide)
    have hq13 : wk.cell? ⟨g, o + k * 14 + 13, none⟩ = some (.bool e.j.two) := hc 13 (by decide)
    have hd3 : decide ((k : Int) < (es.length : Nat)) = true := by simp; omega
    have hV := Lib.hid (heap_last wk (.cells #[.int .i64 e.t, .int .i64 e.k, .string e.d, .int .u16 e.j.ov, .int .u16 e.j.ox, .int .u16 e.j.ol, .int .i64 e.j.oe, .int .i64 e.j.ok, .int .u16 e.j.nv, .int .u16 e.j.nx, .int .u16 e.j.nl, .int .i64 e.j.ne, .int .i64 e.j.nk, .bool e.j.two] 47))
    have M7 := Lib.hid (M6.out.alloc (.cells #[.int .i64 e.t, .int .i64 e.k, .string e.d, .int .u16 e.j.ov, .int .u16 e.j.ox, .int .u16 e.j.ol, .int .i64 e.j.oe, .int .i64 e.j.ok, .int .u16 e.j.nv, .int .u16 e.j.nx, .int .u16 e.j.nl, .int .i64 e.j.ne, .int .i64 e.j.nk, .bool e.j.two] 47))
    obtain ⟨⟨T2, b2⟩, hT2⟩ : ∃ x, termL l (prev + 1 + k) = x := ⟨_, rfl⟩
    have hbad : Hid (badL l prev es k = ((T2, b2) != (e.t, true))) := by show _ = _; unfold badL; rw [hT2, hgd]
    have HC2 := Lib.hid (term_any l p c (prev + 1 + k) _ HF.out.b0 HF.out.b1 HF.out.n (by omega) (by omega) (HE.out.keep M7.out.b (Nat.le_refl _)) hT2)
    have kA7 := block_cells M7.out.a
    have kT7 := block_cells M7.out.t
    have kZ7 := block_cells M7.out.z
    have fZ7 := block_free M7.out.z
    rcases Nat.lt_or_ge k k0 with hkk | hkk
    · obtain ⟨rfl, rfl⟩ : b2 = true ∧ T2 = e.t := by
        have := HG.out k hkk
        rw [hbad.out] at this
        simp only [bne_eq_false_iff_eq, Prod.mk.injEq] at this
        exact ⟨this.2, this.1⟩
      clear hbad hgl hc he hgd hT2
      go_wp2_with fail
      refine HC2.out.mono ?_
      rintro r w7 ⟨rfl, hb7⟩
      have M8 := Lib.hid (M7.out.keep hb7)
      have kE8 := block_cells (below_block hb7 (block_lt hV.out) hV.out)
      have kA8 := block_cells M8.out.a
      have kT8 := block_cells M8.out.t
      have kZ8 := block_cells M8.out.z
      have fZ8 := block_free M8.out.z
      have HB8 : Hid (Below w5.heap.size w5 w7) := (HB.out.alloc HB.out.size _).trans (hb7.mono (Nat.le_trans HB.out.size (by simp)))
      clear hb7 kA6 kT6 kZ6 fZ6 kA7 kT7 kZ7 fZ7
      go_wp2_with fail
      go_roundw
      case rel => exact ⟨rfl, k + 1, by omega, by go_num, HB8⟩
      case measure => simp [intOf]; omega
    · obtain rfl : k = k0 := by omega
      obtain rfl : b2 = false := by have := HB2.out; rw [hT2] at this; exact this
      clear hbad hgl hc he hgd hT2
      go_wp2_with fail
      refine HC2.out.mono ?_
      rintro r w7 ⟨rfl, hb7⟩
      have M8 := Lib.hid (M7.out.keep hb7)
      have kE8 := block_cells (below_block hb7 (block_lt hV.out) hV.out)
      have kA8 := block_cells M8.out.a
      have kT8 := block_cells M8.out.t
      have kZ8 := block_cells M8.out.z
      have fZ8 := block_free M8.out.z
      have HB8 : Hid (Below w5.heap.size w5 w7) := (HB.out.alloc HB.out.size _).trans (hb7.mono (Nat.le_trans HB.out.size (by simp)))
      clear hb7 kA6 kT6 kZ6 fZ6 kA7 kT7 kZ7 fZ7
      go_upto_region 16 with fail
      go_cut [9, 10] (fun n9 n10 wx => n9 = .int .i64 (prev + es.length) ∧ n10 = .bool true ∧ Taken w f (mergeL l prev T es) (prev + es.length) wx)
      case first =>
        go_region_with ((go_at_call 137; refine (HFR.out _ _ _ _ M8.out).mono ?_; rintro r w9 ⟨p5, c5, rfl, ho5, hb5⟩; have M9 := Lib.hid (M8.out.keep hb5); have kA9 := block_cells M9.out.a; have kZ9 := block_cells M9.out.z; have fZ9 := block_free M9.out.z; have HO9 := Lib.hid ho5; have HB9 := Lib.hid hb5; clear ho5 hb5))
        all_goals (
          go_wp2_with fail
          go_meet
          exact ⟨rfl, rfl, M8.out.took HO9.out HB9.out HX⟩)
      case rest =>
        obtain ⟨rfl, rfl, p5, c5, kF, hend⟩ := hcut
        go_wp2_with fail
        refine bodyPost_ret (v := .tuple #[.agg #[.int .i64 f.b, .int .i64 f.bt, .int .u16 f.j.ov, .int .u16 f.j.ox, .int .u16 f.j.ol, .int .i64 f.j.oe, .int .i64 f.j.ok, .int .u16 f.j.nv, .int .u16 f.j.nx, .int .u16 f.j.nl, .int .i64 f.j.ne, .int .i64 f.j.nk, .bool f.j.two, .slice p5 f.es.length c5], .int .i64 (prev + es.length), .bool true]) ?_ rfl hend
        simp [results, Tryz.results145, go_sem, kF]
end Go.Proofs.YtbnndbdnejfehaaGreatDoor
/- entries: Merge, behind the base (true). -/
namespace Go.Proofs.YtbnndbdnejfehaaGreatDoor
open Go.ChangeShapes Go.WideShapes Go.ChangeAt Go.RowKit

set_option maxRecDepth 100000 in
set_option maxHeartbeats 16000000 in
theorem merge_high_true (l : Lg) (p : Option Addr) (c : Nat) (prev term : Int) (es : List Ent) (p2 : Option Addr) (c2 : Nat) (w : World) (hF : LgFit l) (hp : -9223372036854775808 ≤ prev ∧ prev ≤ 9223372036854775807) (hE : EnSl w (.slice p l.es.length c) l.es) (h2 : EnSl w (.slice p2 es.length c2) es) (hl : l.es.length + es.length ≤ 1000000) (hi : ¬ (l.last < prev ∨ prev < 0)) (hrf : refusedL l prev term es.length = false) (hb : l.b ≤ prev) (hz : 0 < es.length) (k0 : Nat) (hk0 : k0 < es.length) (hcut : ∀ j < k0, badL l prev es j = false) (hbd : badL l prev es k0 = true) (hb2 : (termL l (prev + 1 + k0)).2 = true) :
    Calls Tryz.prog 145 #[.agg #[.int .i64 l.b, .int .i64 l.bt, .int .u16 l.j.ov, .int .u16 l.j.ox, .int .u16 l.j.ol, .int .i64 l.j.oe, .int .i64 l.j.ok, .int .u16 l.j.nv, .int .u16 l.j.nx, .int .u16 l.j.nl, .int .i64 l.j.ne, .int .i64 l.j.nk, .bool l.j.two, .slice p l.es.length c], .int .i64 prev, .int .i64 term, .slice p2 es.length c2] w (LgEnd3 w.heap.size w (mergeL l prev term es)) := by
  have HE := Lib.hid hE
  have H2 := Lib.hid h2
  have HF := Lib.hid hF
  have hb0 := hF.b0; have hb1 := hF.b1; have hn := hF.n
  have H3 := Lib.hid (MgW.start hE hn)
  have hsz2 : es.length ≤ 1000000 := by omega
  obtain ⟨hp0, hp1⟩ := hp
  have hgt : ¬ l.last < prev := fun h => hi (.inl h)
  have hge : 0 ≤ prev := by have : ¬ prev < 0 := fun h => hi (.inr h); omega
  have hd : decide (l.last < prev) = false := by simpa using hgt
  have hd0 : decide (prev < 0) = false := by simpa using hge
  have hd2 : decide (prev < l.b) = false := by simpa using hb
  have hd1 : decide (l.b ≤ prev) = true := by simpa using hb
  have HR : Hid (mergeL l prev term es = (joinL l prev es, prev + es.length, true)) := by
    show _ = _; unfold mergeL; rw [if_neg hi, if_neg (by rw [hrf]; simp), if_neg (by omega)]
  obtain ⟨⟨T, b⟩, hT⟩ : ∃ x, termL l prev = x := ⟨_, rfl⟩
  have HT := Lib.hid hT
  have hbt : b = true := by have := termL_has hb (by omega); rw [hT] at this; exact this
  subst hbt
  have hTt : T = term := by
    unfold refusedL at hrf
    rw [hT] at hrf
    simp [hb] at hrf
    exact hrf.1
  subst hTt
  have HSUM : Hid (l.es.length + es.length ≤ 1000000) := hl
  have hlast : prev ≤ l.b + l.es.length := by unfold Lg.last at hgt; omega
  obtain ⟨p2', c2', he2, hc21, hc22⟩ := h2.form
  simp only [Value.slice.injEq] at he2
  obtain ⟨rfl, -, rfl⟩ := he2
  have HCAP := Lib.hid hc21
  obtain ⟨g, o, cap, hv, -, -⟩ := h2.at 0 hz
  simp only [Value.slice.injEq, true_and] at hv
  obtain ⟨rfl, -⟩ := hv
  have HG := Lib.hid hcut
  have HBD := Lib.hid hbd
  have HB2 := Lib.hid hb2
  have hkE : k0 < es.length := hk0
  have hmk : prev - l.b + k0 ≤ l.es.length := by
    rcases Nat.eq_zero_or_pos k0 with h0 | h0
    · unfold Lg.last at *; omega
    · have hj := HG.out (k0 - 1) (by omega)
      unfold badL at hj
      have h1 : (termL l (prev + 1 + ((k0 - 1 : Nat) : Int))).2 = true := by simp only [bne_eq_false_iff_eq] at hj; rw [hj]
      have h2 := (termL_known h1).2
      unfold Lg.last at h2
      omega
  obtain ⟨m, hm⟩ := Int.eq_ofNat_of_zero_le (show 0 ≤ prev - l.b by omega)
  have hml : m + k0 ≤ l.es.length := by omega
  obtain ⟨f, hf⟩ : ∃ f, frontL l (m + k0) (es.drop k0) = f := ⟨_, rfl⟩
  have HX : Hid (mergeL l prev T es = (f, prev + es.length, true)) := by
    show _ = _
    rw [HR.out]
    unfold joinL
    rw [cutAt_some hkE HBD.out HG.out]
    simp only
    rw [hm, ← Int.natCast_add, Int.toNat_natCast, hf]
  have HFR : Hid (∀ (p3 : Option Addr) (c3 A : Nat) (W : World), MgW w l p c p3 c3 A W → Calls Tryz.prog 137 #[.agg #[.int .i64 l.b, .int .i64 l.bt, .int .u16 l.j.ov, .int .u16 l.j.ox, .int .u16 l.j.ol, .int .i64 l.j.oe, .int .i64 l.j.ok, .int .u16 l.j.nv, .int .u16 l.j.nx, .int .u16 l.j.nl, .int .i64 l.j.ne, .int .i64 l.j.nk, .bool l.j.two, .slice p l.es.length c], .int .i64 ((m + k0 : Nat) : Int), .slice (some ⟨g, o + k0 * 14, none⟩) (es.length - k0) (c2 - k0)] W.drew fun r w' => ∃ p5 c5, r = .returned (.agg #[.int .i64 f.b, .int .i64 f.bt, .int .u16 f.j.ov, .int .u16 f.j.ox, .int .u16 f.j.ol, .int .i64 f.j.oe, .int .i64 f.j.ok, .int .u16 f.j.nv, .int .u16 f.j.nx, .int .u16 f.j.nl, .int .i64 f.j.ne, .int .i64 f.j.nk, .bool f.j.two, .slice p5 f.es.length c5]) ∧ w'.ownsRow W.heap.size 47 14 (.slice p5 f.es.length c5) f.es.length (entRow f.es) ∧ Below W.heap.size W w') := fun _ _ _ _ M => M.taken HE.out H2.out hkE hml HSUM.out hf (show Hid (es.length = es.length) from rfl)
  have hw1 : IntKind.i64.wrap (prev - l.b) = (m : Int) := by rw [hm]; exact wrap_ok (by omega) (by omega)
  have hw2 : IntKind.i64.wrap ((m : Int) + (k0 : Int)) = ((m + k0 : Nat) : Int) := by rw [wrap_ok (by omega) (by omega), Int.natCast_add]
  have hck : ¬ c2 = k0 := by have := HCAP.out; omega
  have hkn : k0 ≤ c2 := by have := HCAP.out; omega
  clear hf hmk hm
  clear hi hrf hT hE h2 hF hl hz hc21 hcut hbd hb2 hkE
  go_enter Tryz.func145, Tryz.ntmps145
  go_wp2_with fail
  refine H3.out.mono ?_
  rintro r w2 ⟨p3, c3, rfl, M0⟩
  have M := Lib.hid M0
  clear M0
  go_upto_region 2 with fail
  obtain ⟨W, hW⟩ : ∃ W, w2.alloc (.cells #[.int .i64 l.b, .int .i64 l.bt, .int .u16 l.j.ov, .int .u16 l.j.ox, .int .u16 l.j.ol, .int .i64 l.j.oe, .int .i64 l.j.ok, .int .u16 l.j.nv, .int .u16 l.j.nx, .int .u16 l.j.nl, .int .i64 l.j.ne, .int .i64 l.j.nk, .bool l.j.two, .slice p3 l.es.length c3] 30) = W := ⟨_, rfl⟩
  obtain ⟨A, hA⟩ : ∃ A, w2.heap.size = A := ⟨_, rfl⟩
  rw [hW, hA] at M ⊢
  clear hW hA
  have kA := block_cells M.out.a
  have kT := block_cells M.out.t
  have kZ := block_cells M.out.z
  have fZ := block_free M.out.z
  go_wp2_with fail
  refine (last_any l p c W HF.out.b0 HF.out.b1 HF.out.n).mono ?_
  rintro r w4 ⟨rfl, hb4⟩
  have M4 := Lib.hid (M.out.keep hb4)
  have kA4 := block_cells M4.out.a
  have kT4 := block_cells M4.out.t
  have kZ4 := block_cells M4.out.z
  have fZ4 := block_free M4.out.z
  clear hb4 kA kT kZ fZ
  go_wp2_with fail
  refine (term_any l p c prev w4 HF.out.b0 HF.out.b1 HF.out.n hp0 hp1 (HE.out.keep M4.out.b (Nat.le_refl _)) HT).mono ?_
  rintro r w5 ⟨rfl, hb5⟩
  have M5 := Lib.hid (M4.out.keep hb5)
  have kA5 := block_cells M5.out.a
  have kT5 := block_cells M5.out.t
  have kZ5 := block_cells M5.out.z
  have fZ5 := block_free M5.out.z
  clear hb5 kA4 kT4 kZ4 fZ4
  go_upto_region 11 with fail
  go_wp2_with fail
  go_loopw [9, 85] (fun n9 i wr => n9 = .int .i64 (prev + es.length) ∧ ∃ k : Nat, k ≤ k0 ∧ i = .int .i64 k ∧ Hid (Below w5.heap.size w5 wr)) (fun _ i _ => es.length - (intOf i).toNat)
  case atStart => exact ⟨rfl, 0, Nat.zero_le _, rfl, Below.refl _ _⟩
  case round =>
    obtain ⟨rfl, k, hk, rfl, HB⟩ := hrel
    obtain ⟨wk, rfl⟩ : ∃ wk : World, wk = wr := ⟨_, rfl⟩
    have M6 := Lib.hid (M5.out.keep HB.out)
    have kA6 := block_cells M6.out.a
    have kT6 := block_cells M6.out.t
    have kZ6 := block_cells M6.out.z
    have fZ6 := block_free M6.out.z
    clear kA5 kT5 kZ5 fZ5
    have hlt : k < es.length := by omega
    have hlE : k < es.length := hlt
    obtain ⟨hgl, hc⟩ := (H2.out.keep M6.out.b (Nat.le_refl _)).cells k hlE
    obtain ⟨e, he⟩ : ∃ e, es[k] = e := ⟨_, rfl⟩
    have hgd : (es.getD k ent0).t = e.t := by rw [← he]; simp [List.getD, List.getElem?_eq_getElem hlE]
    rw [he] at hc
    have hq0 : wk.cell? ⟨g, o + k * 14, none⟩ = some (.int .i64 e.t) := hc 0 (by decide)
    have hq1 : wk.cell? ⟨g, o + k * 14 + 1, none⟩ = some (.int .i64 e.k) := hc 1 (by decide)
    have hq2 : wk.cell? ⟨g, o + k * 14 + 2, none⟩ = some (.string e.d) := hc 2 (by decide)
    have hq3 : wk.cell? ⟨g, o + k * 14 + 3, none⟩ = some (.int .u16 e.j.ov) := hc 3 (by decide)
    have hq4 : wk.cell? ⟨g, o + k * 14 + 4, none⟩ = some (.int .u16 e.j.ox) := hc 4 (by decide)
    have hq5 : wk.cell? ⟨g, o + k * 14 + 5, none⟩ = some (.int .u16 e.j.ol) := hc 5 (by decide)
    have hq6 : wk.cell? ⟨g, o + k * 14 + 6, none⟩ = some (.int .i64 e.j.oe) := hc 6 (by decide)
    have hq7 : wk.cell? ⟨g, o + k * 14 + 7, none⟩ = some (.int .i64 e.j.ok) := hc 7 (by decide)
    have hq8 : wk.cell? ⟨g, o + k * 14 + 8, none⟩ = some (.int .u16 e.j.nv) := hc 8 (by decide)
    have hq9 : wk.cell? ⟨g, o + k * 14 + 9, none⟩ = some (.int .u16 e.j.nx) := hc 9 (by decide)
    have hq10 : wk.cell? ⟨g, o + k * 14 + 10, none⟩ = some (.int .u16 e.j.nl) := hc 10 (by decide)
    have hq11 : wk.cell? ⟨g, o + k * 14 + 11, none⟩ = some (.int .i64 e.j.ne) := hc 11 (by decide)
    have hq12 : wk.cell? ⟨g, o + k * 14 + 12, none⟩ = some (.int .i64 e.j.nk) := hc 12 (by decide)
    have hq13 : wk.cell? ⟨g, o + k * 14 + 13, none⟩ = some (.bool e.j.two) := hc 13 (by decide)
    have hd3 : decide ((k : Int) < (es.length : Nat)) = true := by simp; omega
    have hV := Lib.hid (heap_last wk (.cells #[.int .i64 e.t, .int .i64 e.k, .string e.d, .int .u16 e.j.ov, .int .u16 e.j.ox, .int .u16 e.j.ol, .int .i64 e.j.oe, .int .i64 e.j.ok, .int .u16 e.j.nv, .int .u16 e.j.nx, .int .u16 e.j.nl, .int .i64 e.j.ne, .int .i64 e.j.nk, .bool e.j.two] 47))
    have M7 := Lib.hid (M6.out.alloc (.cells #[.int .i64 e.t, .int .i64 e.k, .string e.d, .int .u16 e.j.ov, .int .u16 e.j.ox, .int .u16 e.j.ol, .int .i64 e.j.oe, .int .i64 e.j.ok, .int .u16 e.j.nv, .int .u16 e.j.nx, .int .u16 e.j.nl, .int .i64 e.j.ne, .int .i64 e.j.nk, .bool e.j.two] 47))
    obtain ⟨⟨T2, b2⟩, hT2⟩ : ∃ x, termL l (prev + 1 + k) = x := ⟨_, rfl⟩
    have hbad : Hid (badL l prev es k = ((T2, b2) != (e.t, true))) := by show _ = _; unfold badL; rw [hT2, hgd]
    have HC2 := Lib.hid (term_any l p c (prev + 1 + k) _ HF.out.b0 HF.out.b1 HF.out.n (by omega) (by omega) (HE.out.keep M7.out.b (Nat.le_refl _)) hT2)
    have kA7 := block_cells M7.out.a
    have kT7 := block_cells M7.out.t
    have kZ7 := block_cells M7.out.z
    have fZ7 := block_free M7.out.z
    rcases Nat.lt_or_ge k k0 with hkk | hkk
    · obtain ⟨rfl, rfl⟩ : b2 = true ∧ T2 = e.t := by
        have := HG.out k hkk
        rw [hbad.out] at this
        simp only [bne_eq_false_iff_eq, Prod.mk.injEq] at this
        exact ⟨this.2, this.1⟩
      clear hbad hgl hc he hgd hT2
      go_wp2_with fail
      refine HC2.out.mono ?_
      rintro r w7 ⟨rfl, hb7⟩
      have M8 := Lib.hid (M7.out.keep hb7)
      have kE8 := block_cells (below_block hb7 (block_lt hV.out) hV.out)
      have kA8 := block_cells M8.out.a
      have kT8 := block_cells M8.out.t
      have kZ8 := block_cells M8.out.z
      have fZ8 := block_free M8.out.z
      have HB8 : Hid (Below w5.heap.size w5 w7) := (HB.out.alloc HB.out.size _).trans (hb7.mono (Nat.le_trans HB.out.size (by simp)))
      clear hb7 kA6 kT6 kZ6 fZ6 kA7 kT7 kZ7 fZ7
      go_wp2_with fail
      go_roundw
      case rel => exact ⟨rfl, k + 1, by omega, by go_num, HB8⟩
      case measure => simp [intOf]; omega
    · obtain rfl : k = k0 := by omega
      obtain rfl : b2 = true := by have := HB2.out; rw [hT2] at this; exact this
      have hTe : T2 ≠ e.t := by
        intro h
        have := HBD.out
        rw [hbad.out, h] at this
        simp at this
      clear hbad hgl hc he hgd hT2
      go_wp2_with fail
      refine HC2.out.mono ?_
      rintro r w7 ⟨rfl, hb7⟩
      have M8 := Lib.hid (M7.out.keep hb7)
      have kE8 := block_cells (below_block hb7 (block_lt hV.out) hV.out)
      have kA8 := block_cells M8.out.a
      have kT8 := block_cells M8.out.t
      have kZ8 := block_cells M8.out.z
      have fZ8 := block_free M8.out.z
      have HB8 : Hid (Below w5.heap.size w5 w7) := (HB.out.alloc HB.out.size _).trans (hb7.mono (Nat.le_trans HB.out.size (by simp)))
      clear hb7 kA6 kT6 kZ6 fZ6 kA7 kT7 kZ7 fZ7
      go_upto_region 16 with fail
      go_cut [9, 10] (fun n9 n10 wx => n9 = .int .i64 (prev + es.length) ∧ n10 = .bool true ∧ Taken w f (mergeL l prev T es) (prev + es.length) wx)
      case first =>
        go_region_with ((go_at_call 137; refine (HFR.out _ _ _ _ M8.out).mono ?_; rintro r w9 ⟨p5, c5, rfl, ho5, hb5⟩; have M9 := Lib.hid (M8.out.keep hb5); have kA9 := block_cells M9.out.a; have kZ9 := block_cells M9.out.z; have fZ9 := block_free M9.out.z; have HO9 := Lib.hid ho5; have HB9 := Lib.hid hb5; clear ho5 hb5))
        all_goals (
          go_wp2_with fail
          go_meet
          exact ⟨rfl, rfl, M8.out.took HO9.out HB9.out HX⟩)
      case rest =>
        obtain ⟨rfl, rfl, p5, c5, kF, hend⟩ := hcut
        go_wp2_with fail
        refine bodyPost_ret (v := .tuple #[.agg #[.int .i64 f.b, .int .i64 f.bt, .int .u16 f.j.ov, .int .u16 f.j.ox, .int .u16 f.j.ol, .int .i64 f.j.oe, .int .i64 f.j.ok, .int .u16 f.j.nv, .int .u16 f.j.nx, .int .u16 f.j.nl, .int .i64 f.j.ne, .int .i64 f.j.nk, .bool f.j.two, .slice p5 f.es.length c5], .int .i64 (prev + es.length), .bool true]) ?_ rfl hend
        simp [results, Tryz.results145, go_sem, kF]
end Go.Proofs.YtbnndbdnejfehaaGreatDoor
/- entries: Merge, from ahead of the base (none). -/
namespace Go.Proofs.YtbnndbdnejfehaaGreatDoor
open Go.ChangeShapes Go.WideShapes Go.ChangeAt Go.RowKit

set_option maxRecDepth 100000 in
set_option maxHeartbeats 16000000 in
theorem merge_low_none (l : Lg) (p : Option Addr) (c : Nat) (prev term : Int) (es : List Ent) (p2 : Option Addr) (c2 : Nat) (w : World) (hF : LgFit l) (hp : -9223372036854775808 ≤ prev ∧ prev ≤ 9223372036854775807) (hE : EnSl w (.slice p l.es.length c) l.es) (h2 : EnSl w (.slice p2 es.length c2) es) (hl : l.es.length + es.length ≤ 1000000) (hi : ¬ (l.last < prev ∨ prev < 0)) (hrf : refusedL l prev term es.length = false) (hb : prev < l.b) (d : Nat) (E : List Ent) (hdd : l.b - prev = d) (hEd : es.drop d = E) (hz : 0 < E.length) (hcut : ∀ j < E.length, badL l l.b E j = false) :
    Calls Tryz.prog 145 #[.agg #[.int .i64 l.b, .int .i64 l.bt, .int .u16 l.j.ov, .int .u16 l.j.ox, .int .u16 l.j.ol, .int .i64 l.j.oe, .int .i64 l.j.ok, .int .u16 l.j.nv, .int .u16 l.j.nx, .int .u16 l.j.nl, .int .i64 l.j.ne, .int .i64 l.j.nk, .bool l.j.two, .slice p l.es.length c], .int .i64 prev, .int .i64 term, .slice p2 es.length c2] w (LgEnd3 w.heap.size w (mergeL l prev term es)) := by
  have HE := Lib.hid hE
  have H2 := Lib.hid h2
  have HF := Lib.hid hF
  have hb0 := hF.b0; have hb1 := hF.b1; have hn := hF.n
  have H3 := Lib.hid (MgW.start hE hn)
  have hsz2 : es.length ≤ 1000000 := by omega
  obtain ⟨hp0, hp1⟩ := hp
  have hgt : ¬ l.last < prev := fun h => hi (.inl h)
  have hge : 0 ≤ prev := by have : ¬ prev < 0 := fun h => hi (.inr h); omega
  have hd : decide (l.last < prev) = false := by simpa using hgt
  have hd0 : decide (prev < 0) = false := by simpa using hge
  have hd2 : decide (prev < l.b) = true := by simpa using hb
  have hd1 : decide (l.b ≤ prev) = false := by simpa using hb
  obtain ⟨⟨T, b⟩, hT⟩ : ∃ x, termL l prev = x := ⟨_, rfl⟩
  have HT := Lib.hid hT
  have hEl : E.length = es.length - d := by rw [← hEd, List.length_drop]
  have hdl : d < es.length := by omega
  have hd5 : decide ((es.length : Int) < (d : Int)) = false := by simp; omega
  have hd6 : decide (es.length < d) = false := by simp; omega
  have HR : Hid (mergeL l prev term es = (joinL l l.b E, prev + es.length, true)) := by
    show _ = _; unfold mergeL; rw [if_neg hi, if_neg (by rw [hrf]; simp), if_pos hb, hdd, Int.toNat_natCast, hEd]
  have HSUM : Hid (l.es.length + E.length ≤ 1000000) := by show _ ≤ _; omega
  obtain ⟨p2', c2', he2, hc21, hc22⟩ := h2.form
  simp only [Value.slice.injEq] at he2
  obtain ⟨rfl, -, rfl⟩ := he2
  have hdc : d ≤ c2 := by omega
  have hdc' : ¬ c2 = d := by omega
  obtain ⟨g, o, cap, hv, -, -⟩ := h2.at 0 (by omega)
  simp only [Value.slice.injEq, true_and] at hv
  obtain ⟨rfl, -⟩ := hv
  obtain ⟨N, hN⟩ : ∃ N, es.length - d = N := ⟨_, rfl⟩
  obtain ⟨C, hC⟩ : ∃ C, c2 - d = C := ⟨_, rfl⟩
  have HLEN : Hid (E.length = N) := by show _ = _; omega
  have HCAP : Hid (N ≤ C) := by show _ ≤ _; omega
  have HE2 : Hid (EnSl w (.slice (some ⟨g, o + d * 14, none⟩) E.length C) E) := by
    show EnSl _ _ _
    have h3 := h2.drop (k := d) (by omega)
    have hm3 : Option.map (fun x => x.add (d * 14)) (some (⟨g, o, none⟩ : Addr)) = some ⟨g, o + d * 14, none⟩ := by simp [add_plain]
    rw [hm3, hEd, hC] at h3
    exact h3
  have hlb : (l.b : Int) ≤ l.b + l.es.length := by omega
  have hNl : N ≤ 1000000 := by omega
  have HDD := Lib.hid hdd
  have HG := Lib.hid hcut
  clear hi hrf hT hE h2 hF hl hz hc21 hcut hEd hEl
  go_enter Tryz.func145, Tryz.ntmps145
  go_wp2_with fail
  refine H3.out.mono ?_
  rintro r w2 ⟨p3, c3, rfl, M0⟩
  have M := Lib.hid M0
  clear M0
  go_upto_region 2 with fail
  obtain ⟨W, hW⟩ : ∃ W, w2.alloc (.cells #[.int .i64 l.b, .int .i64 l.bt, .int .u16 l.j.ov, .int .u16 l.j.ox, .int .u16 l.j.ol, .int .i64 l.j.oe, .int .i64 l.j.ok, .int .u16 l.j.nv, .int .u16 l.j.nx, .int .u16 l.j.nl, .int .i64 l.j.ne, .int .i64 l.j.nk, .bool l.j.two, .slice p3 l.es.length c3] 30) = W := ⟨_, rfl⟩
  obtain ⟨A, hA⟩ : ∃ A, w2.heap.size = A := ⟨_, rfl⟩
  rw [hW, hA] at M ⊢
  clear hW hA
  have kA := block_cells M.out.a
  have kT := block_cells M.out.t
  have kZ := block_cells M.out.z
  have fZ := block_free M.out.z
  go_wp2_with fail
  refine (last_any l p c W HF.out.b0 HF.out.b1 HF.out.n).mono ?_
  rintro r w4 ⟨rfl, hb4⟩
  have M4 := Lib.hid (M.out.keep hb4)
  have kA4 := block_cells M4.out.a
  have kT4 := block_cells M4.out.t
  have kZ4 := block_cells M4.out.z
  have fZ4 := block_free M4.out.z
  clear hb4 kA kT kZ fZ
  go_wp2_with fail
  refine (term_any l p c prev w4 HF.out.b0 HF.out.b1 HF.out.n hp0 hp1 (HE.out.keep M4.out.b (Nat.le_refl _)) HT).mono ?_
  rintro r w5 ⟨rfl, hb5⟩
  have M5 := Lib.hid (M4.out.keep hb5)
  have kA5 := block_cells M5.out.a
  have kT5 := block_cells M5.out.t
  have kZ5 := block_cells M5.out.z
  have fZ5 := block_free M5.out.z
  clear hb5 kA4 kT4 kZ4 fZ4
  go_upto_region 11 with fail
  go_wp2_with fail
  go_loopw [9, 85] (fun n9 i wr => n9 = .int .i64 (prev + es.length) ∧ ∃ k : Nat, k ≤ N ∧ i = .int .i64 k ∧ Hid (Below w5.heap.size w5 wr)) (fun _ i _ => N - (intOf i).toNat)
  case atStart => exact ⟨rfl, 0, Nat.zero_le _, rfl, Below.refl _ _⟩
  case round =>
    obtain ⟨rfl, k, hk, rfl, HB⟩ := hrel
    obtain ⟨wk, rfl⟩ : ∃ wk : World, wk = wr := ⟨_, rfl⟩
    have M6 := Lib.hid (M5.out.keep HB.out)
    have kA6 := block_cells M6.out.a
    have kT6 := block_cells M6.out.t
    have kZ6 := block_cells M6.out.z
    have fZ6 := block_free M6.out.z
    clear kA5 kT5 kZ5 fZ5
    by_cases hlt : k < N
    · have hlE : k < E.length := (by rw [HLEN.out]; exact hlt)
      obtain ⟨hgl, hc⟩ := (HE2.out.keep M6.out.b (Nat.le_refl _)).cells k hlE
      obtain ⟨e, he⟩ : ∃ e, E[k] = e := ⟨_, rfl⟩
      have hgd : (E.getD k ent0).t = e.t := by rw [← he]; simp [List.getD, List.getElem?_eq_getElem hlE]
      rw [he] at hc
      have hq0 : wk.cell? ⟨g, o + d * 14 + k * 14, none⟩ = some (.int .i64 e.t) := hc 0 (by decide)
      have hq1 : wk.cell? ⟨g, o + d * 14 + k * 14 + 1, none⟩ = some (.int .i64 e.k) := hc 1 (by decide)
      have hq2 : wk.cell? ⟨g, o + d * 14 + k * 14 + 2, none⟩ = some (.string e.d) := hc 2 (by decide)
      have hq3 : wk.cell? ⟨g, o + d * 14 + k * 14 + 3, none⟩ = some (.int .u16 e.j.ov) := hc 3 (by decide)
      have hq4 : wk.cell? ⟨g, o + d * 14 + k * 14 + 4, none⟩ = some (.int .u16 e.j.ox) := hc 4 (by decide)
      have hq5 : wk.cell? ⟨g, o + d * 14 + k * 14 + 5, none⟩ = some (.int .u16 e.j.ol) := hc 5 (by decide)
      have hq6 : wk.cell? ⟨g, o + d * 14 + k * 14 + 6, none⟩ = some (.int .i64 e.j.oe) := hc 6 (by decide)
      have hq7 : wk.cell? ⟨g, o + d * 14 + k * 14 + 7, none⟩ = some (.int .i64 e.j.ok) := hc 7 (by decide)
      have hq8 : wk.cell? ⟨g, o + d * 14 + k * 14 + 8, none⟩ = some (.int .u16 e.j.nv) := hc 8 (by decide)
      have hq9 : wk.cell? ⟨g, o + d * 14 + k * 14 + 9, none⟩ = some (.int .u16 e.j.nx) := hc 9 (by decide)
      have hq10 : wk.cell? ⟨g, o + d * 14 + k * 14 + 10, none⟩ = some (.int .u16 e.j.nl) := hc 10 (by decide)
      have hq11 : wk.cell? ⟨g, o + d * 14 + k * 14 + 11, none⟩ = some (.int .i64 e.j.ne) := hc 11 (by decide)
      have hq12 : wk.cell? ⟨g, o + d * 14 + k * 14 + 12, none⟩ = some (.int .i64 e.j.nk) := hc 12 (by decide)
      have hq13 : wk.cell? ⟨g, o + d * 14 + k * 14 + 13, none⟩ = some (.bool e.j.two) := hc 13 (by decide)
      have hd3 : decide ((k : Int) < (N : Nat)) = true := by simp; omega
      have hV := Lib.hid (heap_last wk (.cells #[.int .i64 e.t, .int .i64 e.k, .string e.d, .int .u16 e.j.ov, .int .u16 e.j.ox, .int .u16 e.j.ol, .int .i64 e.j.oe, .int .i64 e.j.ok, .int .u16 e.j.nv, .int .u16 e.j.nx, .int .u16 e.j.nl, .int .i64 e.j.ne, .int .i64 e.j.nk, .bool e.j.two] 47))
      have M7 := Lib.hid (M6.out.alloc (.cells #[.int .i64 e.t, .int .i64 e.k, .string e.d, .int .u16 e.j.ov, .int .u16 e.j.ox, .int .u16 e.j.ol, .int .i64 e.j.oe, .int .i64 e.j.ok, .int .u16 e.j.nv, .int .u16 e.j.nx, .int .u16 e.j.nl, .int .i64 e.j.ne, .int .i64 e.j.nk, .bool e.j.two] 47))
      obtain ⟨⟨T2, b2⟩, hT2⟩ : ∃ x, termL l (l.b + 1 + k) = x := ⟨_, rfl⟩
      have hbad : Hid (badL l l.b E k = ((T2, b2) != (e.t, true))) := by show _ = _; unfold badL; rw [hT2, hgd]
      have HC2 := Lib.hid (term_any l p c (l.b + 1 + k) _ HF.out.b0 HF.out.b1 HF.out.n (by omega) (by omega) (HE.out.keep M7.out.b (Nat.le_refl _)) hT2)
      have kA7 := block_cells M7.out.a
      have kT7 := block_cells M7.out.t
      have kZ7 := block_cells M7.out.z
      have fZ7 := block_free M7.out.z
      obtain ⟨rfl, rfl⟩ : b2 = true ∧ T2 = e.t := by
        have := HG.out k hlE
        rw [hbad.out] at this
        simp only [bne_eq_false_iff_eq, Prod.mk.injEq] at this
        exact ⟨this.2, this.1⟩
      clear hbad hgl hc he hgd hT2
      go_wp2_with fail
      refine HC2.out.mono ?_
      rintro r w7 ⟨rfl, hb7⟩
      have M8 := Lib.hid (M7.out.keep hb7)
      have kE8 := block_cells (below_block hb7 (block_lt hV.out) hV.out)
      have kA8 := block_cells M8.out.a
      have kT8 := block_cells M8.out.t
      have kZ8 := block_cells M8.out.z
      have fZ8 := block_free M8.out.z
      have HB8 : Hid (Below w5.heap.size w5 w7) := (HB.out.alloc HB.out.size _).trans (hb7.mono (Nat.le_trans HB.out.size (by simp)))
      clear hb7 kA6 kT6 kZ6 fZ6 kA7 kT7 kZ7 fZ7
      go_wp2_with fail
      go_roundw
      case rel => exact ⟨rfl, k + 1, by omega, by go_num, HB8⟩
      case measure => simp [intOf]; omega
    · obtain rfl : k = N := by omega
      have HX : Hid (mergeL l prev term es = (l, prev + es.length, true)) := by
        show _ = _
        rw [HR.out]
        unfold joinL
        rw [cutAt_none HG.out]
      go_wp2_with fail
      obtain ⟨kF, hend⟩ := M6.out.same HX
      unfold put14 at kF hend
      refine bodyPost_ret (v := .tuple #[.agg #[.int .i64 l.b, .int .i64 l.bt, .int .u16 l.j.ov, .int .u16 l.j.ox, .int .u16 l.j.ol, .int .i64 l.j.oe, .int .i64 l.j.ok, .int .u16 l.j.nv, .int .u16 l.j.nx, .int .u16 l.j.nl, .int .i64 l.j.ne, .int .i64 l.j.nk, .bool l.j.two, .slice p3 l.es.length c3], .int .i64 (prev + es.length), .bool true]) ?_ rfl hend
      simp [results, Tryz.results145, go_sem, kF]
end Go.Proofs.YtbnndbdnejfehaaGreatDoor
