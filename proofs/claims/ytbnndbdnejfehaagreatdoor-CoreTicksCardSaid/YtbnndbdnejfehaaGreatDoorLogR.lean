import Derived.Test.YtbnndbdnejfehaaGreatDoorLogJ
import Derived.Test.YtbnndbdnejfehaaGreatDoorLogP
/- Two joints, two entries, compared: one law each. -/
namespace Go.Proofs.YtbnndbdnejfehaaGreatDoor
open Go.ChangeShapes Go.WideShapes Go.ChangeAt Go.RowKit

theorem toList_neE {s t : ByteArray} (h : s ≠ t) : (s.toList == t.toList) = false := by
  rw [beq_eq_false_iff_ne]
  exact fun e => h (bytes_inj (by rw [← ByteArray.toList_eq, ← ByteArray.toList_eq, e]))
set_option maxRecDepth 100000 in
set_option maxHeartbeats 4000000 in
theorem run_neq_jn_raw (a0 b0 : Int) (a1 b1 : Int) (a2 b2 : Int) (a3 b3 : Int) (a4 b4 : Int) (a5 b5 : Int) (a6 b6 : Int) (a7 b7 : Int) (a8 b8 : Int) (a9 b9 : Int) (a10 b10 : Bool) (w : World) : (binOp .neq 27 (.agg #[.int .u16 a0, .int .u16 a1, .int .u16 a2, .int .i64 a3, .int .i64 a4, .int .u16 a5, .int .u16 a6, .int .u16 a7, .int .i64 a8, .int .i64 a9, .bool a10]) (.agg #[.int .u16 b0, .int .u16 b1, .int .u16 b2, .int .i64 b3, .int .i64 b4, .int .u16 b5, .int .u16 b6, .int .u16 b7, .int .i64 b8, .int .i64 b9, .bool b10])).run Tryz.prog w = .ok (.bool (!(decide (Jn.mk a0 a1 a2 a3 a4 a5 a6 a7 a8 a9 a10 = Jn.mk b0 b1 b2 b3 b4 b5 b6 b7 b8 b9 b10)))) w := by
  by_cases h : a0 = b0
  rotate_left
  · have hq := (by simpa using h : (a0 == b0) = false)
    have hd : decide (Jn.mk a0 a1 a2 a3 a4 a5 a6 a7 a8 a9 a10 = Jn.mk b0 b1 b2 b3 b4 b5 b6 b7 b8 b9 b10) = false := by simp [h]
    rw [hd]; simp [go_sem, hq]
  subst h
  by_cases h : a1 = b1
  rotate_left
  · have hq := (by simpa using h : (a1 == b1) = false)
    have hd : decide (Jn.mk a0 a1 a2 a3 a4 a5 a6 a7 a8 a9 a10 = Jn.mk a0 b1 b2 b3 b4 b5 b6 b7 b8 b9 b10) = false := by simp [h]
    rw [hd]; simp [go_sem, hq]
  subst h
  by_cases h : a2 = b2
  rotate_left
  · have hq := (by simpa using h : (a2 == b2) = false)
    have hd : decide (Jn.mk a0 a1 a2 a3 a4 a5 a6 a7 a8 a9 a10 = Jn.mk a0 a1 b2 b3 b4 b5 b6 b7 b8 b9 b10) = false := by simp [h]
    rw [hd]; simp [go_sem, hq]
  subst h
  by_cases h : a3 = b3
  rotate_left
  · have hq := (by simpa using h : (a3 == b3) = false)
    have hd : decide (Jn.mk a0 a1 a2 a3 a4 a5 a6 a7 a8 a9 a10 = Jn.mk a0 a1 a2 b3 b4 b5 b6 b7 b8 b9 b10) = false := by simp [h]
    rw [hd]; simp [go_sem, hq]
  subst h
  by_cases h : a4 = b4
  rotate_left
  · have hq := (by simpa using h : (a4 == b4) = false)
    have hd : decide (Jn.mk a0 a1 a2 a3 a4 a5 a6 a7 a8 a9 a10 = Jn.mk a0 a1 a2 a3 b4 b5 b6 b7 b8 b9 b10) = false := by simp [h]
    rw [hd]; simp [go_sem, hq]
  subst h
  by_cases h : a5 = b5
  rotate_left
  · have hq := (by simpa using h : (a5 == b5) = false)
    have hd : decide (Jn.mk a0 a1 a2 a3 a4 a5 a6 a7 a8 a9 a10 = Jn.mk a0 a1 a2 a3 a4 b5 b6 b7 b8 b9 b10) = false := by simp [h]
    rw [hd]; simp [go_sem, hq]
  subst h
  by_cases h : a6 = b6
  rotate_left
  · have hq := (by simpa using h : (a6 == b6) = false)
    have hd : decide (Jn.mk a0 a1 a2 a3 a4 a5 a6 a7 a8 a9 a10 = Jn.mk a0 a1 a2 a3 a4 a5 b6 b7 b8 b9 b10) = false := by simp [h]
    rw [hd]; simp [go_sem, hq]
  subst h
  by_cases h : a7 = b7
  rotate_left
  · have hq := (by simpa using h : (a7 == b7) = false)
    have hd : decide (Jn.mk a0 a1 a2 a3 a4 a5 a6 a7 a8 a9 a10 = Jn.mk a0 a1 a2 a3 a4 a5 a6 b7 b8 b9 b10) = false := by simp [h]
    rw [hd]; simp [go_sem, hq]
  subst h
  by_cases h : a8 = b8
  rotate_left
  · have hq := (by simpa using h : (a8 == b8) = false)
    have hd : decide (Jn.mk a0 a1 a2 a3 a4 a5 a6 a7 a8 a9 a10 = Jn.mk a0 a1 a2 a3 a4 a5 a6 a7 b8 b9 b10) = false := by simp [h]
    rw [hd]; simp [go_sem, hq]
  subst h
  by_cases h : a9 = b9
  rotate_left
  · have hq := (by simpa using h : (a9 == b9) = false)
    have hd : decide (Jn.mk a0 a1 a2 a3 a4 a5 a6 a7 a8 a9 a10 = Jn.mk a0 a1 a2 a3 a4 a5 a6 a7 a8 b9 b10) = false := by simp [h]
    rw [hd]; simp [go_sem, hq]
  subst h
  by_cases h : a10 = b10
  rotate_left
  · have hq := (by simpa using h : (a10 == b10) = false)
    have hd : decide (Jn.mk a0 a1 a2 a3 a4 a5 a6 a7 a8 a9 a10 = Jn.mk a0 a1 a2 a3 a4 a5 a6 a7 a8 a9 b10) = false := by simp [h]
    rw [hd]; simp [go_sem, hq]
  subst h
  simp [go_sem]
set_option maxRecDepth 100000 in
set_option maxHeartbeats 4000000 in
theorem run_neq_ent_raw (a0 b0 : Int) (a1 b1 : Int) (a2 b2 : ByteArray) (a3 b3 : Int) (a4 b4 : Int) (a5 b5 : Int) (a6 b6 : Int) (a7 b7 : Int) (a8 b8 : Int) (a9 b9 : Int) (a10 b10 : Int) (a11 b11 : Int) (a12 b12 : Int) (a13 b13 : Bool) (w : World) : (binOp .neq 47 (.agg #[.int .i64 a0, .int .i64 a1, .string a2, .int .u16 a3, .int .u16 a4, .int .u16 a5, .int .i64 a6, .int .i64 a7, .int .u16 a8, .int .u16 a9, .int .u16 a10, .int .i64 a11, .int .i64 a12, .bool a13]) (.agg #[.int .i64 b0, .int .i64 b1, .string b2, .int .u16 b3, .int .u16 b4, .int .u16 b5, .int .i64 b6, .int .i64 b7, .int .u16 b8, .int .u16 b9, .int .u16 b10, .int .i64 b11, .int .i64 b12, .bool b13])).run Tryz.prog w = .ok (.bool (!(decide (Ent.mk a0 a1 a2 (Jn.mk a3 a4 a5 a6 a7 a8 a9 a10 a11 a12 a13) = Ent.mk b0 b1 b2 (Jn.mk b3 b4 b5 b6 b7 b8 b9 b10 b11 b12 b13))))) w := by
  by_cases h : a0 = b0
  rotate_left
  · have hq := (by simpa using h : (a0 == b0) = false)
    have hd : decide (Ent.mk a0 a1 a2 (Jn.mk a3 a4 a5 a6 a7 a8 a9 a10 a11 a12 a13) = Ent.mk b0 b1 b2 (Jn.mk b3 b4 b5 b6 b7 b8 b9 b10 b11 b12 b13)) = false := by simp [h]
    rw [hd]; simp [go_sem, hq]
  subst h
  by_cases h : a1 = b1
  rotate_left
  · have hq := (by simpa using h : (a1 == b1) = false)
    have hd : decide (Ent.mk a0 a1 a2 (Jn.mk a3 a4 a5 a6 a7 a8 a9 a10 a11 a12 a13) = Ent.mk a0 b1 b2 (Jn.mk b3 b4 b5 b6 b7 b8 b9 b10 b11 b12 b13)) = false := by simp [h]
    rw [hd]; simp [go_sem, hq]
  subst h
  by_cases h : a2 = b2
  rotate_left
  · have hq := toList_neE h
    have hd : decide (Ent.mk a0 a1 a2 (Jn.mk a3 a4 a5 a6 a7 a8 a9 a10 a11 a12 a13) = Ent.mk a0 a1 b2 (Jn.mk b3 b4 b5 b6 b7 b8 b9 b10 b11 b12 b13)) = false := by simp [h]
    rw [hd]; simp [go_sem, hq]
  subst h
  by_cases h : a3 = b3
  rotate_left
  · have hq := (by simpa using h : (a3 == b3) = false)
    have hd : decide (Ent.mk a0 a1 a2 (Jn.mk a3 a4 a5 a6 a7 a8 a9 a10 a11 a12 a13) = Ent.mk a0 a1 a2 (Jn.mk b3 b4 b5 b6 b7 b8 b9 b10 b11 b12 b13)) = false := by simp [h]
    rw [hd]; simp [go_sem, hq]
  subst h
  by_cases h : a4 = b4
  rotate_left
  · have hq := (by simpa using h : (a4 == b4) = false)
    have hd : decide (Ent.mk a0 a1 a2 (Jn.mk a3 a4 a5 a6 a7 a8 a9 a10 a11 a12 a13) = Ent.mk a0 a1 a2 (Jn.mk a3 b4 b5 b6 b7 b8 b9 b10 b11 b12 b13)) = false := by simp [h]
    rw [hd]; simp [go_sem, hq]
  subst h
  by_cases h : a5 = b5
  rotate_left
  · have hq := (by simpa using h : (a5 == b5) = false)
    have hd : decide (Ent.mk a0 a1 a2 (Jn.mk a3 a4 a5 a6 a7 a8 a9 a10 a11 a12 a13) = Ent.mk a0 a1 a2 (Jn.mk a3 a4 b5 b6 b7 b8 b9 b10 b11 b12 b13)) = false := by simp [h]
    rw [hd]; simp [go_sem, hq]
  subst h
  by_cases h : a6 = b6
  rotate_left
  · have hq := (by simpa using h : (a6 == b6) = false)
    have hd : decide (Ent.mk a0 a1 a2 (Jn.mk a3 a4 a5 a6 a7 a8 a9 a10 a11 a12 a13) = Ent.mk a0 a1 a2 (Jn.mk a3 a4 a5 b6 b7 b8 b9 b10 b11 b12 b13)) = false := by simp [h]
    rw [hd]; simp [go_sem, hq]
  subst h
  by_cases h : a7 = b7
  rotate_left
  · have hq := (by simpa using h : (a7 == b7) = false)
    have hd : decide (Ent.mk a0 a1 a2 (Jn.mk a3 a4 a5 a6 a7 a8 a9 a10 a11 a12 a13) = Ent.mk a0 a1 a2 (Jn.mk a3 a4 a5 a6 b7 b8 b9 b10 b11 b12 b13)) = false := by simp [h]
    rw [hd]; simp [go_sem, hq]
  subst h
  by_cases h : a8 = b8
  rotate_left
  · have hq := (by simpa using h : (a8 == b8) = false)
    have hd : decide (Ent.mk a0 a1 a2 (Jn.mk a3 a4 a5 a6 a7 a8 a9 a10 a11 a12 a13) = Ent.mk a0 a1 a2 (Jn.mk a3 a4 a5 a6 a7 b8 b9 b10 b11 b12 b13)) = false := by simp [h]
    rw [hd]; simp [go_sem, hq]
  subst h
  by_cases h : a9 = b9
  rotate_left
  · have hq := (by simpa using h : (a9 == b9) = false)
    have hd : decide (Ent.mk a0 a1 a2 (Jn.mk a3 a4 a5 a6 a7 a8 a9 a10 a11 a12 a13) = Ent.mk a0 a1 a2 (Jn.mk a3 a4 a5 a6 a7 a8 b9 b10 b11 b12 b13)) = false := by simp [h]
    rw [hd]; simp [go_sem, hq]
  subst h
  by_cases h : a10 = b10
  rotate_left
  · have hq := (by simpa using h : (a10 == b10) = false)
    have hd : decide (Ent.mk a0 a1 a2 (Jn.mk a3 a4 a5 a6 a7 a8 a9 a10 a11 a12 a13) = Ent.mk a0 a1 a2 (Jn.mk a3 a4 a5 a6 a7 a8 a9 b10 b11 b12 b13)) = false := by simp [h]
    rw [hd]; simp [go_sem, hq]
  subst h
  by_cases h : a11 = b11
  rotate_left
  · have hq := (by simpa using h : (a11 == b11) = false)
    have hd : decide (Ent.mk a0 a1 a2 (Jn.mk a3 a4 a5 a6 a7 a8 a9 a10 a11 a12 a13) = Ent.mk a0 a1 a2 (Jn.mk a3 a4 a5 a6 a7 a8 a9 a10 b11 b12 b13)) = false := by simp [h]
    rw [hd]; simp [go_sem, hq]
  subst h
  by_cases h : a12 = b12
  rotate_left
  · have hq := (by simpa using h : (a12 == b12) = false)
    have hd : decide (Ent.mk a0 a1 a2 (Jn.mk a3 a4 a5 a6 a7 a8 a9 a10 a11 a12 a13) = Ent.mk a0 a1 a2 (Jn.mk a3 a4 a5 a6 a7 a8 a9 a10 a11 b12 b13)) = false := by simp [h]
    rw [hd]; simp [go_sem, hq]
  subst h
  by_cases h : a13 = b13
  rotate_left
  · have hq := (by simpa using h : (a13 == b13) = false)
    have hd : decide (Ent.mk a0 a1 a2 (Jn.mk a3 a4 a5 a6 a7 a8 a9 a10 a11 a12 a13) = Ent.mk a0 a1 a2 (Jn.mk a3 a4 a5 a6 a7 a8 a9 a10 a11 a12 b13)) = false := by simp [h]
    rw [hd]; simp [go_sem, hq]
  subst h
  simp [go_sem]
theorem run_neq_jn (j k : Jn) (w : World) : (binOp .neq 27 (.agg #[.int .u16 j.ov, .int .u16 j.ox, .int .u16 j.ol, .int .i64 j.oe, .int .i64 j.ok, .int .u16 j.nv, .int .u16 j.nx, .int .u16 j.nl, .int .i64 j.ne, .int .i64 j.nk, .bool j.two]) (.agg #[.int .u16 k.ov, .int .u16 k.ox, .int .u16 k.ol, .int .i64 k.oe, .int .i64 k.ok, .int .u16 k.nv, .int .u16 k.nx, .int .u16 k.nl, .int .i64 k.ne, .int .i64 k.nk, .bool k.two])).run Tryz.prog w = .ok (.bool (!decide (j = k))) w := by
  cases j; cases k; exact run_neq_jn_raw ..
theorem run_neq_ent (e f : Ent) (w : World) : (binOp .neq 47 (.agg #[.int .i64 e.t, .int .i64 e.k, .string e.d, .int .u16 e.j.ov, .int .u16 e.j.ox, .int .u16 e.j.ol, .int .i64 e.j.oe, .int .i64 e.j.ok, .int .u16 e.j.nv, .int .u16 e.j.nx, .int .u16 e.j.nl, .int .i64 e.j.ne, .int .i64 e.j.nk, .bool e.j.two]) (.agg #[.int .i64 f.t, .int .i64 f.k, .string f.d, .int .u16 f.j.ov, .int .u16 f.j.ox, .int .u16 f.j.ol, .int .i64 f.j.oe, .int .i64 f.j.ok, .int .u16 f.j.nv, .int .u16 f.j.nx, .int .u16 f.j.nl, .int .i64 f.j.ne, .int .i64 f.j.nk, .bool f.j.two])).run Tryz.prog w = .ok (.bool (!decide (e = f))) w := by
  obtain ⟨_, _, _, j⟩ := e; obtain ⟨_, _, _, k⟩ := f; cases j; cases k; exact run_neq_ent_raw ..
end Go.Proofs.YtbnndbdnejfehaaGreatDoor
/- The reference of entries: are two lists of entries, two logs, the same? -/
namespace Go.Proofs.YtbnndbdnejfehaaGreatDoor
open Go.ChangeShapes Go.WideShapes Go.ChangeAt Go.RowKit

theorem take_nextE {α : Type} {xs ys : List α} {k : Nat} (h : xs.take k = ys.take k) (hk : k < xs.length) (hk' : k < ys.length) (e : xs[k] = ys[k]) : xs.take (k + 1) = ys.take (k + 1) := by
  rw [List.take_succ_eq_append_getElem hk, List.take_succ_eq_append_getElem hk', h, e]
theorem neq_ent_no {e f : Ent} (h : e ≠ f) (w : World) : (binOp .neq 47 (.agg #[.int .i64 e.t, .int .i64 e.k, .string e.d, .int .u16 e.j.ov, .int .u16 e.j.ox, .int .u16 e.j.ol, .int .i64 e.j.oe, .int .i64 e.j.ok, .int .u16 e.j.nv, .int .u16 e.j.nx, .int .u16 e.j.nl, .int .i64 e.j.ne, .int .i64 e.j.nk, .bool e.j.two]) (.agg #[.int .i64 f.t, .int .i64 f.k, .string f.d, .int .u16 f.j.ov, .int .u16 f.j.ox, .int .u16 f.j.ol, .int .i64 f.j.oe, .int .i64 f.j.ok, .int .u16 f.j.nv, .int .u16 f.j.nx, .int .u16 f.j.nl, .int .i64 f.j.ne, .int .i64 f.j.nk, .bool f.j.two])).run Tryz.prog w = .ok (.bool true) w := by rw [run_neq_ent, decide_eq_false h]; rfl
theorem neq_jn_no {e f : Jn} (h : e ≠ f) (w : World) : (binOp .neq 27 (.agg #[.int .u16 e.ov, .int .u16 e.ox, .int .u16 e.ol, .int .i64 e.oe, .int .i64 e.ok, .int .u16 e.nv, .int .u16 e.nx, .int .u16 e.nl, .int .i64 e.ne, .int .i64 e.nk, .bool e.two]) (.agg #[.int .u16 f.ov, .int .u16 f.ox, .int .u16 f.ol, .int .i64 f.oe, .int .i64 f.ok, .int .u16 f.nv, .int .u16 f.nx, .int .u16 f.nl, .int .i64 f.ne, .int .i64 f.nk, .bool f.two])).run Tryz.prog w = .ok (.bool true) w := by rw [run_neq_jn, decide_eq_false h]; rfl
set_option maxRecDepth 100000 in
set_option maxHeartbeats 4000000 in
theorem alike_any (L M : List Ent) (p q : Option Addr) (c d : Nat) (w : World) (hl : L.length ≤ 1000000) (hm : M.length ≤ 1000000) (h1 : EnSl w (.slice p L.length c) L) (h2 : EnSl w (.slice q M.length d) M) :
    Calls Tryz.prog 58 #[.slice p L.length c, .slice q M.length d] w fun r w' => r = .returned (.bool (decide (L = M))) ∧ Below w.heap.size w w' := by
  have H1 := Lib.hid h1; have H2 := Lib.hid h2
  clear h1 h2
  by_cases hne : L.length = M.length
  rotate_left
  · have HN : Hid (decide (L = M) = false) := by show _ = _; rw [decide_eq_false_iff_not]; intro e; exact hne (by rw [e])
    have hd : ((L.length : Int) != (M.length : Int)) = true := by simp; omega
    have hd2 : (L.length != M.length) = true := by simpa using hne
    clear hne
    go_enter Tryz.func58, Tryz.ntmps58
    go_wp2_with fail
    go_ret
    exact ⟨ret_boolL HN.out.symm, Below.refl _ _⟩
  have hne1 : (L.length != M.length) = false := by simp [hne]
  have hne2 : ((L.length : Int) != (M.length : Int)) = false := by simp [hne]
  obtain ⟨hl1, hl2⟩ : L.length ≤ M.length ∧ M.length ≤ L.length := by omega
  clear hne
  go_enter Tryz.func58, Tryz.ntmps58
  obtain ⟨U, f, hU, hf, hg⟩ := calm_class w
  obtain ⟨u0, hu0⟩ := hg _ (Below.refl _ _)
  have HB0 : Hid (∀ u, Below (f u0).heap.size (f u0) (f u)) := by show ∀ u, _; rw [← hu0]; exact hf
  rw [hu0]; clear hu0
  go_wp2_with fail
  go_loopw [5] (fun i wr => ∃ k : Nat, k ≤ L.length ∧ i = .int .i64 k ∧ Hid (L.take k = M.take k) ∧ ∃ u, wr = f u) (fun i _ => L.length - (intOf i).toNat)
  case atStart => exact ⟨0, Nat.zero_le _, rfl, rfl, _, rfl⟩
  case round =>
    obtain ⟨k, hk, rfl, HT, u, rfl⟩ := hrel
    by_cases hlt : k < L.length
    · have hlt' : k < M.length := by omega
      obtain ⟨ga, oa, ca, hva, hga, hca⟩ := H1.out.at k hlt
      obtain ⟨gb, ob, cb, hvb, hgb, hcb⟩ := H2.out.at k hlt'
      simp only [Value.slice.injEq] at hva hvb
      obtain ⟨rfl, -⟩ := hva
      obtain ⟨rfl, -⟩ := hvb
      obtain ⟨e, he⟩ : ∃ e, L[k] = e := ⟨_, rfl⟩
      obtain ⟨e2, he2⟩ : ∃ e, M[k] = e := ⟨_, rfl⟩
      rw [he] at hca
      rw [he2] at hcb
      have hua : ∀ u j, j < 14 → (f u).cell? ⟨ga, oa + k * 14 + j, none⟩ = (entC e)[j]? := fun u j hj => ((hf u).cell (p := ⟨ga, oa + k * 14 + j, none⟩) hga).trans (hca j hj)
      have hub : ∀ u j, j < 14 → (f u).cell? ⟨gb, ob + k * 14 + j, none⟩ = (entC e2)[j]? := fun u j hj => ((hf u).cell (p := ⟨gb, ob + k * 14 + j, none⟩) hgb).trans (hcb j hj)
      have qa0 : ∀ u, (f u).cell? ⟨ga, oa + k * 14, none⟩ = some (.int .i64 e.t) := fun u => hua u 0 (by decide)
      have qa1 : ∀ u, (f u).cell? ⟨ga, oa + k * 14 + 1, none⟩ = some (.int .i64 e.k) := fun u => hua u 1 (by decide)
      have qa2 : ∀ u, (f u).cell? ⟨ga, oa + k * 14 + 2, none⟩ = some (.string e.d) := fun u => hua u 2 (by decide)
      have qa3 : ∀ u, (f u).cell? ⟨ga, oa + k * 14 + 3, none⟩ = some (.int .u16 e.j.ov) := fun u => hua u 3 (by decide)
      have qa4 : ∀ u, (f u).cell? ⟨ga, oa + k * 14 + 4, none⟩ = some (.int .u16 e.j.ox) := fun u => hua u 4 (by decide)
      have qa5 : ∀ u, (f u).cell? ⟨ga, oa + k * 14 + 5, none⟩ = some (.int .u16 e.j.ol) := fun u => hua u 5 (by decide)
      have qa6 : ∀ u, (f u).cell? ⟨ga, oa + k * 14 + 6, none⟩ = some (.int .i64 e.j.oe) := fun u => hua u 6 (by decide)
      have qa7 : ∀ u, (f u).cell? ⟨ga, oa + k * 14 + 7, none⟩ = some (.int .i64 e.j.ok) := fun u => hua u 7 (by decide)
      have qa8 : ∀ u, (f u).cell? ⟨ga, oa + k * 14 + 8, none⟩ = some (.int .u16 e.j.nv) := fun u => hua u 8 (by decide)
      have qa9 : ∀ u, (f u).cell? ⟨ga, oa + k * 14 + 9, none⟩ = some (.int .u16 e.j.nx) := fun u => hua u 9 (by decide)
      have qa10 : ∀ u, (f u).cell? ⟨ga, oa + k * 14 + 10, none⟩ = some (.int .u16 e.j.nl) := fun u => hua u 10 (by decide)
      have qa11 : ∀ u, (f u).cell? ⟨ga, oa + k * 14 + 11, none⟩ = some (.int .i64 e.j.ne) := fun u => hua u 11 (by decide)
      have qa12 : ∀ u, (f u).cell? ⟨ga, oa + k * 14 + 12, none⟩ = some (.int .i64 e.j.nk) := fun u => hua u 12 (by decide)
      have qa13 : ∀ u, (f u).cell? ⟨ga, oa + k * 14 + 13, none⟩ = some (.bool e.j.two) := fun u => hua u 13 (by decide)
      have qb0 : ∀ u, (f u).cell? ⟨gb, ob + k * 14, none⟩ = some (.int .i64 e2.t) := fun u => hub u 0 (by decide)
      have qb1 : ∀ u, (f u).cell? ⟨gb, ob + k * 14 + 1, none⟩ = some (.int .i64 e2.k) := fun u => hub u 1 (by decide)
      have qb2 : ∀ u, (f u).cell? ⟨gb, ob + k * 14 + 2, none⟩ = some (.string e2.d) := fun u => hub u 2 (by decide)
      have qb3 : ∀ u, (f u).cell? ⟨gb, ob + k * 14 + 3, none⟩ = some (.int .u16 e2.j.ov) := fun u => hub u 3 (by decide)
      have qb4 : ∀ u, (f u).cell? ⟨gb, ob + k * 14 + 4, none⟩ = some (.int .u16 e2.j.ox) := fun u => hub u 4 (by decide)
      have qb5 : ∀ u, (f u).cell? ⟨gb, ob + k * 14 + 5, none⟩ = some (.int .u16 e2.j.ol) := fun u => hub u 5 (by decide)
      have qb6 : ∀ u, (f u).cell? ⟨gb, ob + k * 14 + 6, none⟩ = some (.int .i64 e2.j.oe) := fun u => hub u 6 (by decide)
      have qb7 : ∀ u, (f u).cell? ⟨gb, ob + k * 14 + 7, none⟩ = some (.int .i64 e2.j.ok) := fun u => hub u 7 (by decide)
      have qb8 : ∀ u, (f u).cell? ⟨gb, ob + k * 14 + 8, none⟩ = some (.int .u16 e2.j.nv) := fun u => hub u 8 (by decide)
      have qb9 : ∀ u, (f u).cell? ⟨gb, ob + k * 14 + 9, none⟩ = some (.int .u16 e2.j.nx) := fun u => hub u 9 (by decide)
      have qb10 : ∀ u, (f u).cell? ⟨gb, ob + k * 14 + 10, none⟩ = some (.int .u16 e2.j.nl) := fun u => hub u 10 (by decide)
      have qb11 : ∀ u, (f u).cell? ⟨gb, ob + k * 14 + 11, none⟩ = some (.int .i64 e2.j.ne) := fun u => hub u 11 (by decide)
      have qb12 : ∀ u, (f u).cell? ⟨gb, ob + k * 14 + 12, none⟩ = some (.int .i64 e2.j.nk) := fun u => hub u 12 (by decide)
      have qb13 : ∀ u, (f u).cell? ⟨gb, ob + k * 14 + 13, none⟩ = some (.bool e2.j.two) := fun u => hub u 13 (by decide)
      have HEA := Lib.hid he; have HEB := Lib.hid he2
      clear hca hcb hua hub he he2
      have hd1 : decide ((k : Int) < (L.length : Int)) = true := by simp; omega
      have hd2 : decide ((k : Int) < (M.length : Int)) = true := by simp; omega
      by_cases hy : e = e2
      · subst hy
        have HT' : Hid (L.take (k + 1) = M.take (k + 1)) := take_nextE HT.out hlt hlt' (by rw [HEA.out, HEB.out])
        go_wp2_with fail
        refine wp_region_calm f (by kernel_rfl) (by kernel_rfl) (calm_drew hf hg _) ?_
        repeat (go_big_quiet_step ((first | fail)))
        refine wpQuiet_nil ?_; rintro _ ⟨u, rfl⟩
        go_wp2_with fail
        go_roundw
        case rel => exact ⟨k + 1, by omega, by go_num, HT', _, rfl⟩
        case measure => simp [intOf]; omega
      · have HN : Hid (decide (L = M) = false) := by
          show _ = _; rw [decide_eq_false_iff_not]; intro h; subst h; exact hy (HEA.out.symm.trans HEB.out)
        have hq := neq_ent_no hy
        clear hy
        go_wp2_with fail
        refine wp_region_calm f (by kernel_rfl) (by kernel_rfl) (calm_drew hf hg _) ?_
        repeat (go_big_quiet_step ((first | fail)))
        refine wpQuiet_nil ?_; rintro _ ⟨u, rfl⟩
        go_wp2_with fail
        go_ret
        exact ⟨ret_boolL HN.out.symm, HB0.out _⟩
    · obtain rfl : k = L.length := by omega
      have HN : Hid (decide (L = M) = true) := by
        show _ = _; rw [decide_eq_true_iff]
        have := HT.out
        rw [List.take_of_length_le (Nat.le_refl _), List.take_of_length_le (by omega)] at this; exact this
      go_wp2_with fail
      go_ret
      exact ⟨ret_boolL HN.out.symm, HB0.out _⟩
set_option maxRecDepth 100000 in
set_option maxHeartbeats 4000000 in
theorem same_raw (b bt : Int) (j : Jn) (es : List Ent) (b2 bt2 : Int) (j2 : Jn) (es2 : List Ent) (p q : Option Addr) (c d : Nat) (w : World) (hl : es.length ≤ 1000000) (hm : es2.length ≤ 1000000) (h1 : EnSl w (.slice p es.length c) es) (h2 : EnSl w (.slice q es2.length d) es2) :
    Calls Tryz.prog 16 #[.agg #[.int .i64 b, .int .i64 bt, .int .u16 j.ov, .int .u16 j.ox, .int .u16 j.ol, .int .i64 j.oe, .int .i64 j.ok, .int .u16 j.nv, .int .u16 j.nx, .int .u16 j.nl, .int .i64 j.ne, .int .i64 j.nk, .bool j.two, .slice p es.length c], .agg #[.int .i64 b2, .int .i64 bt2, .int .u16 j2.ov, .int .u16 j2.ox, .int .u16 j2.ol, .int .i64 j2.oe, .int .i64 j2.ok, .int .u16 j2.nv, .int .u16 j2.nx, .int .u16 j2.nl, .int .i64 j2.ne, .int .i64 j2.nk, .bool j2.two, .slice q es2.length d]] w fun r w' => r = .returned (.bool (decide (Lg.mk b bt j es = Lg.mk b2 bt2 j2 es2))) ∧ Below w.heap.size w w' := by
  have hb : Below w.heap.size w ((w.alloc (.cells #[.int .i64 b, .int .i64 bt, .int .u16 j.ov, .int .u16 j.ox, .int .u16 j.ol, .int .i64 j.oe, .int .i64 j.ok, .int .u16 j.nv, .int .u16 j.nx, .int .u16 j.nl, .int .i64 j.ne, .int .i64 j.nk, .bool j.two, .slice p es.length c] 30)).alloc (.cells #[.int .i64 b2, .int .i64 bt2, .int .u16 j2.ov, .int .u16 j2.ox, .int .u16 j2.ol, .int .i64 j2.oe, .int .i64 j2.ok, .int .u16 j2.nv, .int .u16 j2.nx, .int .u16 j2.nl, .int .i64 j2.ne, .int .i64 j2.nk, .bool j2.two, .slice q es2.length d] 30)) := ((Below.refl _ _).alloc (Nat.le_refl _) _).alloc (by simp) _
  have H1 := Lib.hid (h1.keep hb (Nat.le_refl _)); have H2 := Lib.hid (h2.keep hb (Nat.le_refl _))
  have HB := Lib.hid hb
  clear h1 h2 hb
  by_cases h : b = b2
  rotate_left
  · have HN : Hid (decide (Lg.mk b bt j es = Lg.mk b2 bt2 j2 es2) = false) := by show _ = _; simp [h]
    have hq := (by simpa using h : (b != b2) = true)
    clear h
    go_enter Tryz.func16, Tryz.ntmps16
    go_wp2_with fail
    go_ret
    exact ⟨ret_boolL HN.out.symm, HB.out⟩
  subst h
  by_cases h : bt = bt2
  rotate_left
  · have HN : Hid (decide (Lg.mk b bt j es = Lg.mk b bt2 j2 es2) = false) := by show _ = _; simp [h]
    have hq := (by simpa using h : (bt != bt2) = true)
    clear h
    go_enter Tryz.func16, Tryz.ntmps16
    go_wp2_with fail
    go_ret
    exact ⟨ret_boolL HN.out.symm, HB.out⟩
  subst h
  by_cases h : j = j2
  rotate_left
  · have HN : Hid (decide (Lg.mk b bt j es = Lg.mk b bt j2 es2) = false) := by show _ = _; simp [h]
    have hq := neq_jn_no h
    clear h
    go_enter Tryz.func16, Tryz.ntmps16
    go_wp2_with fail
    go_ret
    exact ⟨ret_boolL HN.out.symm, HB.out⟩
  subst h
  have HN : Hid (decide (Lg.mk b bt j es = Lg.mk b bt j es2) = decide (es = es2)) := by show _ = _; simp
  have HC := Lib.hid (alike_any es es2 p q c d _ hl hm H1.out H2.out)
  go_enter Tryz.func16, Tryz.ntmps16
  go_wp2_with fail
  refine HC.out.mono ?_; rintro r w' ⟨rfl, hb2⟩
  have HB2 := Lib.hid (HB.out.trans (hb2.mono HB.out.size))
  clear hb2
  go_wp2_with fail
  go_ret
  exact ⟨ret_boolL HN.out.symm, HB2.out⟩
theorem same_any (l m : Lg) (p q : Option Addr) (c d : Nat) (w : World) (hl : l.es.length ≤ 1000000) (hm : m.es.length ≤ 1000000) (h1 : EnSl w (.slice p l.es.length c) l.es) (h2 : EnSl w (.slice q m.es.length d) m.es) :
    Calls Tryz.prog 16 #[.agg #[.int .i64 l.b, .int .i64 l.bt, .int .u16 l.j.ov, .int .u16 l.j.ox, .int .u16 l.j.ol, .int .i64 l.j.oe, .int .i64 l.j.ok, .int .u16 l.j.nv, .int .u16 l.j.nx, .int .u16 l.j.nl, .int .i64 l.j.ne, .int .i64 l.j.nk, .bool l.j.two, .slice p l.es.length c], .agg #[.int .i64 m.b, .int .i64 m.bt, .int .u16 m.j.ov, .int .u16 m.j.ox, .int .u16 m.j.ol, .int .i64 m.j.oe, .int .i64 m.j.ok, .int .u16 m.j.nv, .int .u16 m.j.nx, .int .u16 m.j.nl, .int .i64 m.j.ne, .int .i64 m.j.nk, .bool m.j.two, .slice q m.es.length d]] w fun r w' => r = .returned (.bool (decide (l = m))) ∧ Below w.heap.size w w' := by
  obtain ⟨b, bt, j, es⟩ := l
  obtain ⟨b2, bt2, j2, es2⟩ := m
  exact same_raw b bt j es b2 bt2 j2 es2 p q c d w hl hm h1 h2
end Go.Proofs.YtbnndbdnejfehaaGreatDoor
