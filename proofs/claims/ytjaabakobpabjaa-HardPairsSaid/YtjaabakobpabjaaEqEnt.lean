/- Two joints, two entries, compared: one law each. -/
import Derived.Test.YtjaabakobpabjaaLogD
namespace Go.Proofs.Ytjaabakobpabjaa
open Go.ChangeShapes Go.WideShapes Go.ChangeAt Go.RowKit

theorem toList_neE {s t : ByteArray} (h : s ≠ t) : (s.toList == t.toList) = false := by
  rw [beq_eq_false_iff_ne]
  exact fun e => h (bytes_inj (by rw [← ByteArray.toList_eq, ← ByteArray.toList_eq, e]))
set_option maxRecDepth 100000 in
set_option maxHeartbeats 4000000 in
theorem run_neq_jn_raw (a0 b0 : Int) (a1 b1 : Int) (a2 b2 : Int) (a3 b3 : Int) (a4 b4 : Int) (a5 b5 : Int) (a6 b6 : Int) (a7 b7 : Int) (a8 b8 : Int) (a9 b9 : Int) (a10 b10 : Bool) (w : World) : (binOp .neq 42 (.agg #[.int .u16 a0, .int .u16 a1, .int .u16 a2, .int .i64 a3, .int .i64 a4, .int .u16 a5, .int .u16 a6, .int .u16 a7, .int .i64 a8, .int .i64 a9, .bool a10]) (.agg #[.int .u16 b0, .int .u16 b1, .int .u16 b2, .int .i64 b3, .int .i64 b4, .int .u16 b5, .int .u16 b6, .int .u16 b7, .int .i64 b8, .int .i64 b9, .bool b10])).run Try.prog w = .ok (.bool (!(decide (Jn.mk a0 a1 a2 a3 a4 a5 a6 a7 a8 a9 a10 = Jn.mk b0 b1 b2 b3 b4 b5 b6 b7 b8 b9 b10)))) w := by
  by_cases h : a0 = b0
  rotate_left
  · have hq := (by simpa using h : (a0 == b0) = false)
    have hd : decide (Jn.mk a0 a1 a2 a3 a4 a5 a6 a7 a8 a9 a10 = Jn.mk b0 b1 b2 b3 b4 b5 b6 b7 b8 b9 b10) = false := by simp [h]
    rw [hd]; simp [go_sem, hq]
  subst h
  by_cases h : a1 = b1
  rotate_left
  · have hq := (by simpa using h : (a1 == b1) = false)
    have hd : decide (Jn.mk a0 a1 a2 a3 a4 a5 a6 a7 a8 a9 a10 = Jn.mk a0 b1 b2 b3 b4 b5 b6 b7 b8 b9 b10) = false := by simp [h]
    rw [hd]; simp [go_sem, hq]
  subst h
  by_cases h : a2 = b2
  rotate_left
  · have hq := (by simpa using h : (a2 == b2) = false)
    have hd : decide (Jn.mk a0 a1 a2 a3 a4 a5 a6 a7 a8 a9 a10 = Jn.mk a0 a1 b2 b3 b4 b5 b6 b7 b8 b9 b10) = false := by simp [h]
    rw [hd]; simp [go_sem, hq]
  subst h
  by_cases h : a3 = b3
  rotate_left
  · have hq := (by simpa using h : (a3 == b3) = false)
    have hd : decide (Jn.mk a0 a1 a2 a3 a4 a5 a6 a7 a8 a9 a10 = Jn.mk a0 a1 a2 b3 b4 b5 b6 b7 b8 b9 b10) = false := by simp [h]
    rw [hd]; simp [go_sem, hq]
  subst h
  by_cases h : a4 = b4
  rotate_left
  · have hq := (by simpa using h : (a4 == b4) = false)
    have hd : decide (Jn.mk a0 a1 a2 a3 a4 a5 a6 a7 a8 a9 a10 = Jn.mk a0 a1 a2 a3 b4 b5 b6 b7 b8 b9 b10) = false := by simp [h]
    rw [hd]; simp [go_sem, hq]
  subst h
  by_cases h : a5 = b5
  rotate_left
  · have hq := (by simpa using h : (a5 == b5) = false)
    have hd : decide (Jn.mk a0 a1 a2 a3 a4 a5 a6 a7 a8 a9 a10 = Jn.mk a0 a1 a2 a3 a4 b5 b6 b7 b8 b9 b10) = false := by simp [h]
    rw [hd]; simp [go_sem, hq]
  subst h
  by_cases h : a6 = b6
  rotate_left
  · have hq := (by simpa using h : (a6 == b6) = false)
    have hd : decide (Jn.mk a0 a1 a2 a3 a4 a5 a6 a7 a8 a9 a10 = Jn.mk a0 a1 a2 a3 a4 a5 b6 b7 b8 b9 b10) = false := by simp [h]
    rw [hd]; simp [go_sem, hq]
  subst h
  by_cases h : a7 = b7
  rotate_left
  · have hq := (by simpa using h : (a7 == b7) = false)
    have hd : decide (Jn.mk a0 a1 a2 a3 a4 a5 a6 a7 a8 a9 a10 = Jn.mk a0 a1 a2 a3 a4 a5 a6 b7 b8 b9 b10) = false := by simp [h]
    rw [hd]; simp [go_sem, hq]
  subst h
  by_cases h : a8 = b8
  rotate_left
  · have hq := (by simpa using h : (a8 == b8) = false)
    have hd : decide (Jn.mk a0 a1 a2 a3 a4 a5 a6 a7 a8 a9 a10 = Jn.mk a0 a1 a2 a3 a4 a5 a6 a7 b8 b9 b10) = false := by simp [h]
    rw [hd]; simp [go_sem, hq]
  subst h
  by_cases h : a9 = b9
  rotate_left
  · have hq := (by simpa using h : (a9 == b9) = false)
    have hd : decide (Jn.mk a0 a1 a2 a3 a4 a5 a6 a7 a8 a9 a10 = Jn.mk a0 a1 a2 a3 a4 a5 a6 a7 a8 b9 b10) = false := by simp [h]
    rw [hd]; simp [go_sem, hq]
  subst h
  by_cases h : a10 = b10
  rotate_left
  · have hq := (by simpa using h : (a10 == b10) = false)
    have hd : decide (Jn.mk a0 a1 a2 a3 a4 a5 a6 a7 a8 a9 a10 = Jn.mk a0 a1 a2 a3 a4 a5 a6 a7 a8 a9 b10) = false := by simp [h]
    rw [hd]; simp [go_sem, hq]
  subst h
  simp [go_sem]
set_option maxRecDepth 100000 in
set_option maxHeartbeats 4000000 in
theorem run_neq_ent_raw (a0 b0 : Int) (a1 b1 : Int) (a2 b2 : ByteArray) (a3 b3 : Int) (a4 b4 : Int) (a5 b5 : Int) (a6 b6 : Int) (a7 b7 : Int) (a8 b8 : Int) (a9 b9 : Int) (a10 b10 : Int) (a11 b11 : Int) (a12 b12 : Int) (a13 b13 : Bool) (w : World) : (binOp .neq 85 (.agg #[.int .i64 a0, .int .i64 a1, .string a2, .int .u16 a3, .int .u16 a4, .int .u16 a5, .int .i64 a6, .int .i64 a7, .int .u16 a8, .int .u16 a9, .int .u16 a10, .int .i64 a11, .int .i64 a12, .bool a13]) (.agg #[.int .i64 b0, .int .i64 b1, .string b2, .int .u16 b3, .int .u16 b4, .int .u16 b5, .int .i64 b6, .int .i64 b7, .int .u16 b8, .int .u16 b9, .int .u16 b10, .int .i64 b11, .int .i64 b12, .bool b13])).run Try.prog w = .ok (.bool (!(decide (Ent.mk a0 a1 a2 (Jn.mk a3 a4 a5 a6 a7 a8 a9 a10 a11 a12 a13) = Ent.mk b0 b1 b2 (Jn.mk b3 b4 b5 b6 b7 b8 b9 b10 b11 b12 b13))))) w := by
  by_cases h : a0 = b0
  rotate_left
  · have hq := (by simpa using h : (a0 == b0) = false)
    have hd : decide (Ent.mk a0 a1 a2 (Jn.mk a3 a4 a5 a6 a7 a8 a9 a10 a11 a12 a13) = Ent.mk b0 b1 b2 (Jn.mk b3 b4 b5 b6 b7 b8 b9 b10 b11 b12 b13)) = false := by simp [h]
    rw [hd]; simp [go_sem, hq]
  subst h
  by_cases h : a1 = b1
  rotate_left
  · have hq := (by simpa using h : (a1 == b1) = false)
    have hd : decide (Ent.mk a0 a1 a2 (Jn.mk a3 a4 a5 a6 a7 a8 a9 a10 a11 a12 a13) = Ent.mk a0 b1 b2 (Jn.mk b3 b4 b5 b6 b7 b8 b9 b10 b11 b12 b13)) = false := by simp [h]
    rw [hd]; simp [go_sem, hq]
  subst h
  by_cases h : a2 = b2
  rotate_left
  · have hq := toList_neE h
    have hd : decide (Ent.mk a0 a1 a2 (Jn.mk a3 a4 a5 a6 a7 a8 a9 a10 a11 a12 a13) = Ent.mk a0 a1 b2 (Jn.mk b3 b4 b5 b6 b7 b8 b9 b10 b11 b12 b13)) = false := by simp [h]
    rw [hd]; simp [go_sem, hq]
  subst h
  by_cases h : a3 = b3
  rotate_left
  · have hq := (by simpa using h : (a3 == b3) = false)
    have hd : decide (Ent.mk a0 a1 a2 (Jn.mk a3 a4 a5 a6 a7 a8 a9 a10 a11 a12 a13) = Ent.mk a0 a1 a2 (Jn.mk b3 b4 b5 b6 b7 b8 b9 b10 b11 b12 b13)) = false := by simp [h]
    rw [hd]; simp [go_sem, hq]
  subst h
  by_cases h : a4 = b4
  rotate_left
  · have hq := (by simpa using h : (a4 == b4) = false)
    have hd : decide (Ent.mk a0 a1 a2 (Jn.mk a3 a4 a5 a6 a7 a8 a9 a10 a11 a12 a13) = Ent.mk a0 a1 a2 (Jn.mk a3 b4 b5 b6 b7 b8 b9 b10 b11 b12 b13)) = false := by simp [h]
    rw [hd]; simp [go_sem, hq]
  subst h
  by_cases h : a5 = b5
  rotate_left
  · have hq := (by simpa using h : (a5 == b5) = false)
    have hd : decide (Ent.mk a0 a1 a2 (Jn.mk a3 a4 a5 a6 a7 a8 a9 a10 a11 a12 a13) = Ent.mk a0 a1 a2 (Jn.mk a3 a4 b5 b6 b7 b8 b9 b10 b11 b12 b13)) = false := by simp [h]
    rw [hd]; simp [go_sem, hq]
  subst h
  by_cases h : a6 = b6
  rotate_left
  · have hq := (by simpa using h : (a6 == b6) = false)
    have hd : decide (Ent.mk a0 a1 a2 (Jn.mk a3 a4 a5 a6 a7 a8 a9 a10 a11 a12 a13) = Ent.mk a0 a1 a2 (Jn.mk a3 a4 a5 b6 b7 b8 b9 b10 b11 b12 b13)) = false := by simp [h]
    rw [hd]; simp [go_sem, hq]
  subst h
  by_cases h : a7 = b7
  rotate_left
  · have hq := (by simpa using h : (a7 == b7) = false)
    have hd : decide (Ent.mk a0 a1 a2 (Jn.mk a3 a4 a5 a6 a7 a8 a9 a10 a11 a12 a13) = Ent.mk a0 a1 a2 (Jn.mk a3 a4 a5 a6 b7 b8 b9 b10 b11 b12 b13)) = false := by simp [h]
    rw [hd]; simp [go_sem, hq]
  subst h
  by_cases h : a8 = b8
  rotate_left
  · have hq := (by simpa using h : (a8 == b8) = false)
    have hd : decide (Ent.mk a0 a1 a2 (Jn.mk a3 a4 a5 a6 a7 a8 a9 a10 a11 a12 a13) = Ent.mk a0 a1 a2 (Jn.mk a3 a4 a5 a6 a7 b8 b9 b10 b11 b12 b13)) = false := by simp [h]
    rw [hd]; simp [go_sem, hq]
  subst h
  by_cases h : a9 = b9
  rotate_left
  · have hq := (by simpa using h : (a9 == b9) = false)
    have hd : decide (Ent.mk a0 a1 a2 (Jn.mk a3 a4 a5 a6 a7 a8 a9 a10 a11 a12 a13) = Ent.mk a0 a1 a2 (Jn.mk a3 a4 a5 a6 a7 a8 b9 b10 b11 b12 b13)) = false := by simp [h]
    rw [hd]; simp [go_sem, hq]
  subst h
  by_cases h : a10 = b10
  rotate_left
  · have hq := (by simpa using h : (a10 == b10) = false)
    have hd : decide (Ent.mk a0 a1 a2 (Jn.mk a3 a4 a5 a6 a7 a8 a9 a10 a11 a12 a13) = Ent.mk a0 a1 a2 (Jn.mk a3 a4 a5 a6 a7 a8 a9 b10 b11 b12 b13)) = false := by simp [h]
    rw [hd]; simp [go_sem, hq]
  subst h
  by_cases h : a11 = b11
  rotate_left
  · have hq := (by simpa using h : (a11 == b11) = false)
    have hd : decide (Ent.mk a0 a1 a2 (Jn.mk a3 a4 a5 a6 a7 a8 a9 a10 a11 a12 a13) = Ent.mk a0 a1 a2 (Jn.mk a3 a4 a5 a6 a7 a8 a9 a10 b11 b12 b13)) = false := by simp [h]
    rw [hd]; simp [go_sem, hq]
  subst h
  by_cases h : a12 = b12
  rotate_left
  · have hq := (by simpa using h : (a12 == b12) = false)
    have hd : decide (Ent.mk a0 a1 a2 (Jn.mk a3 a4 a5 a6 a7 a8 a9 a10 a11 a12 a13) = Ent.mk a0 a1 a2 (Jn.mk a3 a4 a5 a6 a7 a8 a9 a10 a11 b12 b13)) = false := by simp [h]
    rw [hd]; simp [go_sem, hq]
  subst h
  by_cases h : a13 = b13
  rotate_left
  · have hq := (by simpa using h : (a13 == b13) = false)
    have hd : decide (Ent.mk a0 a1 a2 (Jn.mk a3 a4 a5 a6 a7 a8 a9 a10 a11 a12 a13) = Ent.mk a0 a1 a2 (Jn.mk a3 a4 a5 a6 a7 a8 a9 a10 a11 a12 b13)) = false := by simp [h]
    rw [hd]; simp [go_sem, hq]
  subst h
  simp [go_sem]
theorem run_neq_jn (j k : Jn) (w : World) : (binOp .neq 42 (.agg #[.int .u16 j.ov, .int .u16 j.ox, .int .u16 j.ol, .int .i64 j.oe, .int .i64 j.ok, .int .u16 j.nv, .int .u16 j.nx, .int .u16 j.nl, .int .i64 j.ne, .int .i64 j.nk, .bool j.two]) (.agg #[.int .u16 k.ov, .int .u16 k.ox, .int .u16 k.ol, .int .i64 k.oe, .int .i64 k.ok, .int .u16 k.nv, .int .u16 k.nx, .int .u16 k.nl, .int .i64 k.ne, .int .i64 k.nk, .bool k.two])).run Try.prog w = .ok (.bool (!decide (j = k))) w := by
  cases j; cases k; exact run_neq_jn_raw ..
theorem run_neq_ent (e f : Ent) (w : World) : (binOp .neq 85 (.agg #[.int .i64 e.t, .int .i64 e.k, .string e.d, .int .u16 e.j.ov, .int .u16 e.j.ox, .int .u16 e.j.ol, .int .i64 e.j.oe, .int .i64 e.j.ok, .int .u16 e.j.nv, .int .u16 e.j.nx, .int .u16 e.j.nl, .int .i64 e.j.ne, .int .i64 e.j.nk, .bool e.j.two]) (.agg #[.int .i64 f.t, .int .i64 f.k, .string f.d, .int .u16 f.j.ov, .int .u16 f.j.ox, .int .u16 f.j.ol, .int .i64 f.j.oe, .int .i64 f.j.ok, .int .u16 f.j.nv, .int .u16 f.j.nx, .int .u16 f.j.nl, .int .i64 f.j.ne, .int .i64 f.j.nk, .bool f.j.two])).run Try.prog w = .ok (.bool (!decide (e = f))) w := by
  obtain ⟨_, _, _, j⟩ := e; obtain ⟨_, _, _, k⟩ := f; cases j; cases k; exact run_neq_ent_raw ..
end Go.Proofs.Ytjaabakobpabjaa
