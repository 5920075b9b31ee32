/- entries: Merge, where nothing is taken. -/
import Derived.Test.YtabiccpodnjieaaLogN0
namespace Go.Proofs.Ytabiccpodnjieaa
open Go.ChangeShapes Go.WideShapes Go.ChangeAt Go.RowKit

set_option maxRecDepth 100000 in
set_option maxHeartbeats 16000000 in
theorem merge_out (l : Lg) (p : Option Addr) (c : Nat) (prev term : Int) (es : List Ent) (p2 : Option Addr) (c2 : Nat) (w : World) (hF : LgFit l) (hp : -9223372036854775808 ≤ prev ∧ prev ≤ 9223372036854775807) (hE : EnSl w (.slice p l.es.length c) l.es) (h2 : EnSl w (.slice p2 es.length c2) es) (hl : l.es.length + es.length ≤ 1000000) (ho : l.last < prev ∨ prev < 0) :
    Calls Try.prog 15 #[.agg #[.int .i64 l.b, .int .i64 l.bt, .int .u16 l.j.ov, .int .u16 l.j.ox, .int .u16 l.j.ol, .int .i64 l.j.oe, .int .i64 l.j.ok, .int .u16 l.j.nv, .int .u16 l.j.nx, .int .u16 l.j.nl, .int .i64 l.j.ne, .int .i64 l.j.nk, .bool l.j.two, .slice p l.es.length c], .int .i64 prev, .int .i64 term, .slice p2 es.length c2] w (LgEnd3 w.heap.size w (mergeL l prev term es)) := by
  have HE := Lib.hid hE
  have H2 := Lib.hid h2
  have HF := Lib.hid hF
  have hb0 := hF.b0; have hb1 := hF.b1; have hn := hF.n
  have H3 := Lib.hid (MgW.start hE hn)
  have hsz2 : es.length ≤ 1000000 := by omega
  obtain ⟨hp0, hp1⟩ := hp
  have HR : Hid (mergeL l prev term es = (l, 0, false)) := by show _ = _; unfold mergeL; rw [if_pos ho]
  clear hE h2 hF
  by_cases hgt : l.last < prev
  · have hd : decide (l.last < prev) = true := by simpa using hgt
    clear ho
    go_enter Try.func15, Try.ntmps15
    go_wp2_with fail
    refine H3.out.mono ?_
    rintro r w2 ⟨p3, c3, rfl, M0⟩
    have M := Lib.hid M0
    clear M0
    go_upto_region 2 with fail
    obtain ⟨W, hW⟩ : ∃ W, w2.alloc (.cells #[.int .i64 l.b, .int .i64 l.bt, .int .u16 l.j.ov, .int .u16 l.j.ox, .int .u16 l.j.ol, .int .i64 l.j.oe, .int .i64 l.j.ok, .int .u16 l.j.nv, .int .u16 l.j.nx, .int .u16 l.j.nl, .int .i64 l.j.ne, .int .i64 l.j.nk, .bool l.j.two, .slice p3 l.es.length c3] 32) = W := ⟨_, rfl⟩
    obtain ⟨A, hA⟩ : ∃ A, w2.heap.size = A := ⟨_, rfl⟩
    rw [hW, hA] at M ⊢
    clear hW hA
    have kA := block_cells M.out.a
    have kT := block_cells M.out.t
    have kZ := block_cells M.out.z
    have fZ := block_free M.out.z
    go_wp2_with fail
    refine (last_any l p c W HF.out.b0 HF.out.b1 HF.out.n).mono ?_
    rintro r w4 ⟨rfl, hb4⟩
    have M4 := Lib.hid (M.out.keep hb4)
    have kA4 := block_cells M4.out.a
    have kT4 := block_cells M4.out.t
    have kZ4 := block_cells M4.out.z
    have fZ4 := block_free M4.out.z
    clear hb4 kA kT kZ fZ
    go_wp2_with fail
    obtain ⟨kF, hend⟩ := M4.out.same HR
    unfold put14 at kF hend
    refine bodyPost_ret (v := .tuple #[.agg #[.int .i64 l.b, .int .i64 l.bt, .int .u16 l.j.ov, .int .u16 l.j.ox, .int .u16 l.j.ol, .int .i64 l.j.oe, .int .i64 l.j.ok, .int .u16 l.j.nv, .int .u16 l.j.nx, .int .u16 l.j.nl, .int .i64 l.j.ne, .int .i64 l.j.nk, .bool l.j.two, .slice p3 l.es.length c3], .int .i64 0, .bool false]) ?_ rfl hend
    simp [results, Try.results15, go_sem, kF]
  · have hlt : prev < 0 := by omega
    have hd : decide (l.last < prev) = false := by simpa using hgt
    have hd0 : decide (prev < 0) = true := by simpa using hlt
    clear ho
    go_enter Try.func15, Try.ntmps15
    go_wp2_with fail
    refine H3.out.mono ?_
    rintro r w2 ⟨p3, c3, rfl, M0⟩
    have M := Lib.hid M0
    clear M0
    go_upto_region 2 with fail
    obtain ⟨W, hW⟩ : ∃ W, w2.alloc (.cells #[.int .i64 l.b, .int .i64 l.bt, .int .u16 l.j.ov, .int .u16 l.j.ox, .int .u16 l.j.ol, .int .i64 l.j.oe, .int .i64 l.j.ok, .int .u16 l.j.nv, .int .u16 l.j.nx, .int .u16 l.j.nl, .int .i64 l.j.ne, .int .i64 l.j.nk, .bool l.j.two, .slice p3 l.es.length c3] 32) = W := ⟨_, rfl⟩
    obtain ⟨A, hA⟩ : ∃ A, w2.heap.size = A := ⟨_, rfl⟩
    rw [hW, hA] at M ⊢
    clear hW hA
    have kA := block_cells M.out.a
    have kT := block_cells M.out.t
    have kZ := block_cells M.out.z
    have fZ := block_free M.out.z
    go_wp2_with fail
    refine (last_any l p c W HF.out.b0 HF.out.b1 HF.out.n).mono ?_
    rintro r w4 ⟨rfl, hb4⟩
    have M4 := Lib.hid (M.out.keep hb4)
    have kA4 := block_cells M4.out.a
    have kT4 := block_cells M4.out.t
    have kZ4 := block_cells M4.out.z
    have fZ4 := block_free M4.out.z
    clear hb4 kA kT kZ fZ
    go_wp2_with fail
    obtain ⟨kF, hend⟩ := M4.out.same HR
    unfold put14 at kF hend
    refine bodyPost_ret (v := .tuple #[.agg #[.int .i64 l.b, .int .i64 l.bt, .int .u16 l.j.ov, .int .u16 l.j.ox, .int .u16 l.j.ol, .int .i64 l.j.oe, .int .i64 l.j.ok, .int .u16 l.j.nv, .int .u16 l.j.nx, .int .u16 l.j.nl, .int .i64 l.j.ne, .int .i64 l.j.nk, .bool l.j.two, .slice p3 l.es.length c3], .int .i64 0, .bool false]) ?_ rfl hend
    simp [results, Try.results15, go_sem, kF]
set_option maxRecDepth 100000 in
set_option maxHeartbeats 16000000 in
theorem merge_ref (l : Lg) (p : Option Addr) (c : Nat) (prev term : Int) (es : List Ent) (p2 : Option Addr) (c2 : Nat) (w : World) (hF : LgFit l) (hp : -9223372036854775808 ≤ prev ∧ prev ≤ 9223372036854775807) (hE : EnSl w (.slice p l.es.length c) l.es) (h2 : EnSl w (.slice p2 es.length c2) es) (hl : l.es.length + es.length ≤ 1000000) (hi : ¬ (l.last < prev ∨ prev < 0)) (hrf : refusedL l prev term es.length = true) :
    Calls Try.prog 15 #[.agg #[.int .i64 l.b, .int .i64 l.bt, .int .u16 l.j.ov, .int .u16 l.j.ox, .int .u16 l.j.ol, .int .i64 l.j.oe, .int .i64 l.j.ok, .int .u16 l.j.nv, .int .u16 l.j.nx, .int .u16 l.j.nl, .int .i64 l.j.ne, .int .i64 l.j.nk, .bool l.j.two, .slice p l.es.length c], .int .i64 prev, .int .i64 term, .slice p2 es.length c2] w (LgEnd3 w.heap.size w (mergeL l prev term es)) := by
  have HE := Lib.hid hE
  have H2 := Lib.hid h2
  have HF := Lib.hid hF
  have hb0 := hF.b0; have hb1 := hF.b1; have hn := hF.n
  have H3 := Lib.hid (MgW.start hE hn)
  have hsz2 : es.length ≤ 1000000 := by omega
  obtain ⟨hp0, hp1⟩ := hp
  have HR : Hid (mergeL l prev term es = (l, 0, false)) := by show _ = _; unfold mergeL; rw [if_neg hi, if_pos hrf]
  clear hE h2 hF
  have hgt : ¬ l.last < prev := fun h => hi (.inl h)
  have hge : 0 ≤ prev := by have : ¬ prev < 0 := fun h => hi (.inr h); omega
  have hd : decide (l.last < prev) = false := by simpa using hgt
  have hd0 : decide (prev < 0) = false := by simpa using hge
  obtain ⟨⟨T, b⟩, hT⟩ : ∃ x, termL l prev = x := ⟨_, rfl⟩
  have HT := Lib.hid hT
  unfold refusedL at hrf
  rw [hT] at hrf
  by_cases hb : l.b ≤ prev
  · have hbt : b = true := by have := termL_has hb (by omega); rw [hT] at this; exact this
    subst hbt
    have hne : T ≠ term := by
      intro e
      simp [e] at hrf
      omega
    have hd1 : decide (l.b ≤ prev) = true := by simpa using hb
    have hd2 : decide (prev < l.b) = false := by simpa using hb
    clear hi hrf hT
    go_enter Try.func15, Try.ntmps15
    go_wp2_with fail
    refine H3.out.mono ?_
    rintro r w2 ⟨p3, c3, rfl, M0⟩
    have M := Lib.hid M0
    clear M0
    go_upto_region 2 with fail
    obtain ⟨W, hW⟩ : ∃ W, w2.alloc (.cells #[.int .i64 l.b, .int .i64 l.bt, .int .u16 l.j.ov, .int .u16 l.j.ox, .int .u16 l.j.ol, .int .i64 l.j.oe, .int .i64 l.j.ok, .int .u16 l.j.nv, .int .u16 l.j.nx, .int .u16 l.j.nl, .int .i64 l.j.ne, .int .i64 l.j.nk, .bool l.j.two, .slice p3 l.es.length c3] 32) = W := ⟨_, rfl⟩
    obtain ⟨A, hA⟩ : ∃ A, w2.heap.size = A := ⟨_, rfl⟩
    rw [hW, hA] at M ⊢
    clear hW hA
    have kA := block_cells M.out.a
    have kT := block_cells M.out.t
    have kZ := block_cells M.out.z
    have fZ := block_free M.out.z
    go_wp2_with fail
    refine (last_any l p c W HF.out.b0 HF.out.b1 HF.out.n).mono ?_
    rintro r w4 ⟨rfl, hb4⟩
    have M4 := Lib.hid (M.out.keep hb4)
    have kA4 := block_cells M4.out.a
    have kT4 := block_cells M4.out.t
    have kZ4 := block_cells M4.out.z
    have fZ4 := block_free M4.out.z
    clear hb4 kA kT kZ fZ
    go_wp2_with fail
    refine (term_any l p c prev w4 HF.out.b0 HF.out.b1 HF.out.n hp0 hp1 (HE.out.keep M4.out.b (Nat.le_refl _)) HT).mono ?_
    rintro r w5 ⟨rfl, hb5⟩
    have M5 := Lib.hid (M4.out.keep hb5)
    have kA5 := block_cells M5.out.a
    have kT5 := block_cells M5.out.t
    have kZ5 := block_cells M5.out.z
    have fZ5 := block_free M5.out.z
    clear hb5 kA4 kT4 kZ4 fZ4
    go_wp2_with fail
    obtain ⟨kF, hend⟩ := M5.out.same HR
    unfold put14 at kF hend
    refine bodyPost_ret (v := .tuple #[.agg #[.int .i64 l.b, .int .i64 l.bt, .int .u16 l.j.ov, .int .u16 l.j.ox, .int .u16 l.j.ol, .int .i64 l.j.oe, .int .i64 l.j.ok, .int .u16 l.j.nv, .int .u16 l.j.nx, .int .u16 l.j.nl, .int .i64 l.j.ne, .int .i64 l.j.nk, .bool l.j.two, .slice p3 l.es.length c3], .int .i64 0, .bool false]) ?_ rfl hend
    simp [results, Try.results15, go_sem, kF]
  · have hlb : prev < l.b := by omega
    have hsh : (es.length : Int) < l.b - prev := by
      have h1 : decide (l.b ≤ prev) = false := by simpa using hb
      simpa [h1, hlb] using hrf
    have hd1 : decide (l.b ≤ prev) = false := by simpa using hb
    have hd2 : decide (prev < l.b) = true := by simpa using hlb
    clear hi hrf hT
    go_enter Try.func15, Try.ntmps15
    go_wp2_with fail
    refine H3.out.mono ?_
    rintro r w2 ⟨p3, c3, rfl, M0⟩
    have M := Lib.hid M0
    clear M0
    go_upto_region 2 with fail
    obtain ⟨W, hW⟩ : ∃ W, w2.alloc (.cells #[.int .i64 l.b, .int .i64 l.bt, .int .u16 l.j.ov, .int .u16 l.j.ox, .int .u16 l.j.ol, .int .i64 l.j.oe, .int .i64 l.j.ok, .int .u16 l.j.nv, .int .u16 l.j.nx, .int .u16 l.j.nl, .int .i64 l.j.ne, .int .i64 l.j.nk, .bool l.j.two, .slice p3 l.es.length c3] 32) = W := ⟨_, rfl⟩
    obtain ⟨A, hA⟩ : ∃ A, w2.heap.size = A := ⟨_, rfl⟩
    rw [hW, hA] at M ⊢
    clear hW hA
    have kA := block_cells M.out.a
    have kT := block_cells M.out.t
    have kZ := block_cells M.out.z
    have fZ := block_free M.out.z
    go_wp2_with fail
    refine (last_any l p c W HF.out.b0 HF.out.b1 HF.out.n).mono ?_
    rintro r w4 ⟨rfl, hb4⟩
    have M4 := Lib.hid (M.out.keep hb4)
    have kA4 := block_cells M4.out.a
    have kT4 := block_cells M4.out.t
    have kZ4 := block_cells M4.out.z
    have fZ4 := block_free M4.out.z
    clear hb4 kA kT kZ fZ
    go_wp2_with fail
    refine (term_any l p c prev w4 HF.out.b0 HF.out.b1 HF.out.n hp0 hp1 (HE.out.keep M4.out.b (Nat.le_refl _)) HT).mono ?_
    rintro r w5 ⟨rfl, hb5⟩
    have M5 := Lib.hid (M4.out.keep hb5)
    have kA5 := block_cells M5.out.a
    have kT5 := block_cells M5.out.t
    have kZ5 := block_cells M5.out.z
    have fZ5 := block_free M5.out.z
    clear hb5 kA4 kT4 kZ4 fZ4
    go_wp2_with fail
    obtain ⟨kF, hend⟩ := M5.out.same HR
    unfold put14 at kF hend
    refine bodyPost_ret (v := .tuple #[.agg #[.int .i64 l.b, .int .i64 l.bt, .int .u16 l.j.ov, .int .u16 l.j.ox, .int .u16 l.j.ol, .int .i64 l.j.oe, .int .i64 l.j.ok, .int .u16 l.j.nv, .int .u16 l.j.nx, .int .u16 l.j.nl, .int .i64 l.j.ne, .int .i64 l.j.nk, .bool l.j.two, .slice p3 l.es.length c3], .int .i64 0, .bool false]) ?_ rfl hend
    simp [results, Try.results15, go_sem, kF]
end Go.Proofs.Ytabiccpodnjieaa
