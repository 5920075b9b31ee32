/- The reference of entries: Merge, where it refuses. -/
import Derived.Test.YtabiccpodnjieaaLogZ0
import Derived.Test.YtabiccpodnjieaaLogN0
import Derived.Test.YtabiccpodnjieaaLogC
namespace Go.Proofs.Ytabiccpodnjieaa
open Go.ChangeShapes Go.WideShapes Go.ChangeAt Go.RowKit

/-- A log, a number, and whether it is well; the entries lie anywhere. -/
def LgRef3 (w : World) (x : Lg × Int × Bool) (r : Ending) (w' : World) : Prop :=
  ∃ p c, r = .returned (.tuple #[.agg #[.int .i64 x.1.b, .int .i64 x.1.bt, .int .u16 x.1.j.ov, .int .u16 x.1.j.ox, .int .u16 x.1.j.ol, .int .i64 x.1.j.oe, .int .i64 x.1.j.ok, .int .u16 x.1.j.nv, .int .u16 x.1.j.nx, .int .u16 x.1.j.nl, .int .i64 x.1.j.ne, .int .i64 x.1.j.nk, .bool x.1.j.two, .slice p x.1.es.length c], .int .i64 x.2.1, .bool x.2.2]) ∧ EnSl w' (.slice p x.1.es.length c) x.1.es ∧ Below w.heap.size w w'
set_option maxRecDepth 100000 in
set_option maxHeartbeats 16000000 in
theorem rmerge_no (l : Lg) (p : Option Addr) (c : Nat) (prev term : Int) (es : List Ent) (p2 : Option Addr) (c2 : Nat) (w : World) (hF : LgFit l) (hp : -9223372036854775808 ≤ prev ∧ prev ≤ 9223372036854775807) (hE : EnSl w (.slice p l.es.length c) l.es) (_hl : es.length ≤ 1000000)
    (hc : l.last < prev ∨ (prev ≤ l.last ∧ prev < 0) ∨ (prev ≤ l.last ∧ 0 ≤ prev ∧ l.b ≤ prev ∧ (termL l prev).1 ≠ term) ∨ (prev ≤ l.last ∧ 0 ≤ prev ∧ prev < l.b ∧ (es.length : Int) < l.b - prev)) :
    Calls Try.prog 22 #[.agg #[.int .i64 l.b, .int .i64 l.bt, .int .u16 l.j.ov, .int .u16 l.j.ox, .int .u16 l.j.ol, .int .i64 l.j.oe, .int .i64 l.j.ok, .int .u16 l.j.nv, .int .u16 l.j.nx, .int .u16 l.j.nl, .int .i64 l.j.ne, .int .i64 l.j.nk, .bool l.j.two, .slice p l.es.length c], .int .i64 prev, .int .i64 term, .slice p2 es.length c2] w (LgRef3 w (l, 0, false)) := by
  have HF : Hid (LgFit l) := hF
  have HE := Lib.hid hE
  have hb0 := hF.b0; have hb1 := hF.b1; have hn2 := hF.n
  clear hF hE
  go_enter Try.func22, Try.ntmps22
  go_upto_region 1 with fail
  obtain ⟨W0, hW0⟩ : ∃ W0, w.alloc (.cells #[.int .i64 l.b, .int .i64 l.bt, .int .u16 l.j.ov, .int .u16 l.j.ox, .int .u16 l.j.ol, .int .i64 l.j.oe, .int .i64 l.j.ok, .int .u16 l.j.nv, .int .u16 l.j.nx, .int .u16 l.j.nl, .int .i64 l.j.ne, .int .i64 l.j.nk, .bool l.j.two, .slice p l.es.length c] 32) = W0 := ⟨_, rfl⟩
  obtain ⟨W, hW⟩ : ∃ W, W0.alloc (.cells #[.int .i64 0, .int .i64 0, .int .u16 0, .int .u16 0, .int .u16 0, .int .i64 0, .int .i64 0, .int .u16 0, .int .u16 0, .int .u16 0, .int .i64 0, .int .i64 0, .bool false, .slice none 0 0] 32) = W := ⟨_, rfl⟩
  have hs0 : W0.heap.size = w.heap.size + 1 := by rw [← hW0]; simp
  have hs1 : W.heap.size = w.heap.size + 2 := by rw [← hW]; simp; omega
  have LL := (Lies.new HE.out hW0).keep (below_new _ _ hW)
  have hZ : W.heap[w.heap.size + 1]? = some (.cells #[.int .i64 0, .int .i64 0, .int .u16 0, .int .u16 0, .int .u16 0, .int .i64 0, .int .i64 0, .int .u16 0, .int .u16 0, .int .u16 0, .int .i64 0, .int .i64 0, .bool false, .slice none 0 0] 32 (0, 0)) := by rw [← hW, ← hs0]; exact heap_last _ _
  have hB := (below_new _ _ hW0).trans ((below_new _ _ hW).mono (below_new _ _ hW0).size)
  rw [hW0, hW]
  obtain ⟨A, eA⟩ : ∃ A, w.heap.size = A := ⟨_, rfl⟩
  have HEA : Hid (w.heap.size = A) := eA
  rw [eA] at LL hZ hB hs1 ⊢
  have HPW : Hid (BoxW w A (A + 1) (A + 2) l p c W) := ⟨LL.h, hZ, hB, by omega, by omega, by omega⟩
  have HLE := Lib.hid LL.e
  have hla := rlast_any l p c W hb0 hb1 hn2
  have hlast : Hid (l.last = l.b + l.es.length) := rfl
  obtain ⟨X, hX⟩ : ∃ X, l.last = X := ⟨_, rfl⟩
  rw [hX] at hla hc hlast
  have hX1 := hlast.out
  have HLA := Lib.hid hla
  have kA := LL.cell
  clear hla hX hlast hW0 hW hs0 hs1 LL hZ hB eA
  rcases hc with h | ⟨h, h2⟩ | ⟨h, h2, h3, h4⟩ | ⟨h, h2, h3, h4⟩
  · have hd1 : decide (X < prev) = true := by simpa using h
    go_wp2_with fail
    refine HLA.out.mono ?_; rintro r w5 ⟨rfl, hb5⟩
    have HP5 := Lib.hid (HPW.out.keep hb5)
    clear hb5 kA HLA HPW hX1
    have kA := block_cells HP5.out.a
    have kZ := block_cells HP5.out.z
    have fZ := block_free HP5.out.z
    go_wp2_with fail
    have F := put14_ok HP5.out.z HP5.out.b (Nat.le_succ _) (.int .i64 l.b) (.int .i64 l.bt) (.int .u16 l.j.ov) (.int .u16 l.j.ox) (.int .u16 l.j.ol) (.int .i64 l.j.oe) (.int .i64 l.j.ok) (.int .u16 l.j.nv) (.int .u16 l.j.nx) (.int .u16 l.j.nl) (.int .i64 l.j.ne) (.int .i64 l.j.nk) (.bool l.j.two) (.slice p l.es.length c)
    have kF := block_cells F.1
    obtain ⟨W5, hW5⟩ : ∃ W5, put14 w5 (A + 1) (.int .i64 l.b) (.int .i64 l.bt) (.int .u16 l.j.ov) (.int .u16 l.j.ox) (.int .u16 l.j.ol) (.int .i64 l.j.oe) (.int .i64 l.j.ok) (.int .u16 l.j.nv) (.int .u16 l.j.nx) (.int .u16 l.j.nl) (.int .i64 l.j.ne) (.int .i64 l.j.nk) (.bool l.j.two) (.slice p l.es.length c) = W5 := ⟨_, rfl⟩
    rw [hW5] at F kF
    unfold put14 at hW5
    rw [hW5]
    refine bodyPost_ret (v := .tuple #[.agg #[.int .i64 l.b, .int .i64 l.bt, .int .u16 l.j.ov, .int .u16 l.j.ox, .int .u16 l.j.ol, .int .i64 l.j.oe, .int .i64 l.j.ok, .int .u16 l.j.nv, .int .u16 l.j.nx, .int .u16 l.j.nl, .int .i64 l.j.ne, .int .i64 l.j.nk, .bool l.j.two, .slice p l.es.length c], .int .i64 0, .bool false]) ?_ rfl ⟨p, c, rfl, HE.out.keep F.2 (by rw [HEA.out]; exact Nat.le_refl _), by rw [HEA.out]; exact F.2⟩
    simp [results, Try.results22, go_sem, kF]
  · have hd1 : decide (X < prev) = false := by simp; omega
    have hd2 : decide (prev < 0) = true := by simpa using h2
    go_wp2_with fail
    refine HLA.out.mono ?_; rintro r w5 ⟨rfl, hb5⟩
    have HP5 := Lib.hid (HPW.out.keep hb5)
    clear hb5 kA HLA HPW hX1
    have kA := block_cells HP5.out.a
    have kZ := block_cells HP5.out.z
    have fZ := block_free HP5.out.z
    go_wp2_with fail
    have F := put14_ok HP5.out.z HP5.out.b (Nat.le_succ _) (.int .i64 l.b) (.int .i64 l.bt) (.int .u16 l.j.ov) (.int .u16 l.j.ox) (.int .u16 l.j.ol) (.int .i64 l.j.oe) (.int .i64 l.j.ok) (.int .u16 l.j.nv) (.int .u16 l.j.nx) (.int .u16 l.j.nl) (.int .i64 l.j.ne) (.int .i64 l.j.nk) (.bool l.j.two) (.slice p l.es.length c)
    have kF := block_cells F.1
    obtain ⟨W5, hW5⟩ : ∃ W5, put14 w5 (A + 1) (.int .i64 l.b) (.int .i64 l.bt) (.int .u16 l.j.ov) (.int .u16 l.j.ox) (.int .u16 l.j.ol) (.int .i64 l.j.oe) (.int .i64 l.j.ok) (.int .u16 l.j.nv) (.int .u16 l.j.nx) (.int .u16 l.j.nl) (.int .i64 l.j.ne) (.int .i64 l.j.nk) (.bool l.j.two) (.slice p l.es.length c) = W5 := ⟨_, rfl⟩
    rw [hW5] at F kF
    unfold put14 at hW5
    rw [hW5]
    refine bodyPost_ret (v := .tuple #[.agg #[.int .i64 l.b, .int .i64 l.bt, .int .u16 l.j.ov, .int .u16 l.j.ox, .int .u16 l.j.ol, .int .i64 l.j.oe, .int .i64 l.j.ok, .int .u16 l.j.nv, .int .u16 l.j.nx, .int .u16 l.j.nl, .int .i64 l.j.ne, .int .i64 l.j.nk, .bool l.j.two, .slice p l.es.length c], .int .i64 0, .bool false]) ?_ rfl ⟨p, c, rfl, HE.out.keep F.2 (by rw [HEA.out]; exact Nat.le_refl _), by rw [HEA.out]; exact F.2⟩
    simp [results, Try.results22, go_sem, kF]
  · have hd1 : decide (X < prev) = false := by simp; omega
    have hd2 : decide (prev < 0) = false := by simp; omega
    have hd3 : decide (l.b ≤ prev) = true := by simpa using h3
    obtain ⟨t, ht⟩ : ∃ t, (termL l prev).1 = t := ⟨_, rfl⟩
    obtain ⟨ti, hti⟩ : ∃ t, (termL l prev).2 = t := ⟨_, rfl⟩
    rw [ht] at h4
    have hne : (t != term) = true := by simpa using h4
    have HT1 := Lib.hid ht; have HT2 := Lib.hid hti
    clear ht hti h4
    go_wp2_with fail
    refine HLA.out.mono ?_; rintro r w5 ⟨rfl, hb5⟩
    have HP5 := Lib.hid (HPW.out.keep hb5)
    have htm := rterm_is l p c w5 HF.out (i := prev) hp (HLE.out.keep hb5 (Nat.le_refl _))
    rw [HT1.out, HT2.out] at htm
    have HTM := Lib.hid htm
    clear hb5 kA HLA HPW hX1 htm
    have kA := block_cells HP5.out.a
    go_wp2_with fail
    refine HTM.out.mono ?_; rintro r w6 ⟨rfl, hb6⟩
    have HP6 := Lib.hid (HP5.out.keep hb6)
    clear hb6 kA HTM HP5
    have kA := block_cells HP6.out.a
    have kZ := block_cells HP6.out.z
    have fZ := block_free HP6.out.z
    go_wp2_with fail
    have F := put14_ok HP6.out.z HP6.out.b (Nat.le_succ _) (.int .i64 l.b) (.int .i64 l.bt) (.int .u16 l.j.ov) (.int .u16 l.j.ox) (.int .u16 l.j.ol) (.int .i64 l.j.oe) (.int .i64 l.j.ok) (.int .u16 l.j.nv) (.int .u16 l.j.nx) (.int .u16 l.j.nl) (.int .i64 l.j.ne) (.int .i64 l.j.nk) (.bool l.j.two) (.slice p l.es.length c)
    have kF := block_cells F.1
    obtain ⟨W5, hW5⟩ : ∃ W5, put14 w6 (A + 1) (.int .i64 l.b) (.int .i64 l.bt) (.int .u16 l.j.ov) (.int .u16 l.j.ox) (.int .u16 l.j.ol) (.int .i64 l.j.oe) (.int .i64 l.j.ok) (.int .u16 l.j.nv) (.int .u16 l.j.nx) (.int .u16 l.j.nl) (.int .i64 l.j.ne) (.int .i64 l.j.nk) (.bool l.j.two) (.slice p l.es.length c) = W5 := ⟨_, rfl⟩
    rw [hW5] at F kF
    unfold put14 at hW5
    rw [hW5]
    refine bodyPost_ret (v := .tuple #[.agg #[.int .i64 l.b, .int .i64 l.bt, .int .u16 l.j.ov, .int .u16 l.j.ox, .int .u16 l.j.ol, .int .i64 l.j.oe, .int .i64 l.j.ok, .int .u16 l.j.nv, .int .u16 l.j.nx, .int .u16 l.j.nl, .int .i64 l.j.ne, .int .i64 l.j.nk, .bool l.j.two, .slice p l.es.length c], .int .i64 0, .bool false]) ?_ rfl ⟨p, c, rfl, HE.out.keep F.2 (by rw [HEA.out]; exact Nat.le_refl _), by rw [HEA.out]; exact F.2⟩
    simp [results, Try.results22, go_sem, kF]
  · have hd1 : decide (X < prev) = false := by simp; omega
    have hd2 : decide (prev < 0) = false := by simp; omega
    have hd3 : decide (l.b ≤ prev) = false := by simp; omega
    have hd4 : decide ((es.length : Int) < l.b - prev) = true := by simpa using h4
    go_wp2_with fail
    refine HLA.out.mono ?_; rintro r w5 ⟨rfl, hb5⟩
    have HP5 := Lib.hid (HPW.out.keep hb5)
    clear hb5 kA HLA HPW hX1
    have kA := block_cells HP5.out.a
    have kZ := block_cells HP5.out.z
    have fZ := block_free HP5.out.z
    go_wp2_with fail
    have F := put14_ok HP5.out.z HP5.out.b (Nat.le_succ _) (.int .i64 l.b) (.int .i64 l.bt) (.int .u16 l.j.ov) (.int .u16 l.j.ox) (.int .u16 l.j.ol) (.int .i64 l.j.oe) (.int .i64 l.j.ok) (.int .u16 l.j.nv) (.int .u16 l.j.nx) (.int .u16 l.j.nl) (.int .i64 l.j.ne) (.int .i64 l.j.nk) (.bool l.j.two) (.slice p l.es.length c)
    have kF := block_cells F.1
    obtain ⟨W5, hW5⟩ : ∃ W5, put14 w5 (A + 1) (.int .i64 l.b) (.int .i64 l.bt) (.int .u16 l.j.ov) (.int .u16 l.j.ox) (.int .u16 l.j.ol) (.int .i64 l.j.oe) (.int .i64 l.j.ok) (.int .u16 l.j.nv) (.int .u16 l.j.nx) (.int .u16 l.j.nl) (.int .i64 l.j.ne) (.int .i64 l.j.nk) (.bool l.j.two) (.slice p l.es.length c) = W5 := ⟨_, rfl⟩
    rw [hW5] at F kF
    unfold put14 at hW5
    rw [hW5]
    refine bodyPost_ret (v := .tuple #[.agg #[.int .i64 l.b, .int .i64 l.bt, .int .u16 l.j.ov, .int .u16 l.j.ox, .int .u16 l.j.ol, .int .i64 l.j.oe, .int .i64 l.j.ok, .int .u16 l.j.nv, .int .u16 l.j.nx, .int .u16 l.j.nl, .int .i64 l.j.ne, .int .i64 l.j.nk, .bool l.j.two, .slice p l.es.length c], .int .i64 0, .bool false]) ?_ rfl ⟨p, c, rfl, HE.out.keep F.2 (by rw [HEA.out]; exact Nat.le_refl _), by rw [HEA.out]; exact F.2⟩
    simp [results, Try.results22, go_sem, kF]
end Go.Proofs.Ytabiccpodnjieaa
