/- The reference of entries: Conf. -/
import Derived.Test.YtabiccpodnjieaaLogU
namespace Go.Proofs.Ytabiccpodnjieaa
open Go.ChangeShapes Go.WideShapes Go.ChangeAt Go.RowKit

set_option maxRecDepth 100000 in
set_option maxHeartbeats 4000000 in
theorem rconf_any (l : Lg) (p : Option Addr) (c : Nat) (w : World) (hF : LgFit l) (hE : EnSl w (.slice p l.es.length c) l.es) :
    Calls Try.prog 35 #[.agg #[.int .i64 l.b, .int .i64 l.bt, .int .u16 l.j.ov, .int .u16 l.j.ox, .int .u16 l.j.ol, .int .i64 l.j.oe, .int .i64 l.j.ok, .int .u16 l.j.nv, .int .u16 l.j.nx, .int .u16 l.j.nl, .int .i64 l.j.ne, .int .i64 l.j.nk, .bool l.j.two, .slice p l.es.length c]] w fun r w' => r = .returned (.agg #[.int .u16 (confL l).ov, .int .u16 (confL l).ox, .int .u16 (confL l).ol, .int .i64 (confL l).oe, .int .i64 (confL l).ok, .int .u16 (confL l).nv, .int .u16 (confL l).nx, .int .u16 (confL l).nl, .int .i64 (confL l).ne, .int .i64 (confL l).nk, .bool (confL l).two]) ∧ Below w.heap.size w w' := by
  obtain ⟨⟨j, X⟩, hJ⟩ : ∃ x, confA l l.es.length = x := ⟨_, rfl⟩
  have hj : confL l = j := by rw [← confA_all, hJ]
  rw [hj]
  have HF : Hid (LgFit l) := hF
  have HE := Lib.hid hE
  have HJ := Lib.hid hJ
  clear hF hE hJ hj
  go_enter Try.func35, Try.ntmps35
  go_upto_region 1 with fail
  obtain ⟨W0, hW0⟩ : ∃ W0, w.alloc (.cells #[.int .i64 l.b, .int .i64 l.bt, .int .u16 l.j.ov, .int .u16 l.j.ox, .int .u16 l.j.ol, .int .i64 l.j.oe, .int .i64 l.j.ok, .int .u16 l.j.nv, .int .u16 l.j.nx, .int .u16 l.j.nl, .int .i64 l.j.ne, .int .i64 l.j.nk, .bool l.j.two, .slice p l.es.length c] 32) = W0 := ⟨_, rfl⟩
  obtain ⟨W, hW⟩ : ∃ W, W0.alloc (.cells #[.int .u16 0, .int .u16 0, .int .u16 0, .int .i64 0, .int .i64 0, .int .u16 0, .int .u16 0, .int .u16 0, .int .i64 0, .int .i64 0, .bool false] 29) = W := ⟨_, rfl⟩
  have hs0 : W0.heap.size = w.heap.size + 1 := by rw [← hW0]; simp
  have LL := Lib.hid ((Lies.new HE.out hW0).keep (below_new _ _ hW))
  have hZ : W.heap[w.heap.size + 1]? = some (.cells #[.int .u16 0, .int .u16 0, .int .u16 0, .int .i64 0, .int .i64 0, .int .u16 0, .int .u16 0, .int .u16 0, .int .i64 0, .int .i64 0, .bool false] 29 (0, 0)) := by rw [← hW, ← hs0]; exact heap_last _ _
  have HZ := Lib.hid hZ
  have HBW : Hid (Below w.heap.size w W) := (below_new _ _ hW0).trans ((below_new _ _ hW).mono (below_new _ _ hW0).size)
  rw [hW0, hW]
  clear hW hW0 hs0 hZ
  obtain ⟨A, eA⟩ : ∃ A, w.heap.size = A := ⟨_, rfl⟩
  rw [eA] at LL HZ ⊢
  have HEA : Hid (w.heap.size = A) := eA
  clear eA
  have kA := LL.out.cell
  have HC := Lib.hid (rconfAt_any l p c W HF.out LL.out.e HJ.out)
  go_wp2_with fail
  refine HC.out.mono ?_; rintro r w5 ⟨rfl, hb5⟩
  have HZ5 := Lib.hid (below_block hb5 (block_lt HZ.out) HZ.out)
  have HB5 := Lib.hid (HBW.out.trans (hb5.mono HBW.out.size))
  clear hb5 HC kA
  go_upto_region 2 with fail
  obtain ⟨W6, hW6⟩ : ∃ W6, w5.alloc (.cells #[.int .u16 j.ov, .int .u16 j.ox, .int .u16 j.ol, .int .i64 j.oe, .int .i64 j.ok, .int .u16 j.nv, .int .u16 j.nx, .int .u16 j.nl, .int .i64 j.ne, .int .i64 j.nk, .bool j.two] 29) = W6 := ⟨_, rfl⟩
  have hT : W6.heap[w5.heap.size]? = some (.cells #[.int .u16 j.ov, .int .u16 j.ox, .int .u16 j.ol, .int .i64 j.oe, .int .i64 j.ok, .int .u16 j.nv, .int .u16 j.nx, .int .u16 j.nl, .int .i64 j.ne, .int .i64 j.nk, .bool j.two] 29 (0, 0)) := by rw [← hW6]; exact heap_last _ _
  have hz := below_block (below_new _ _ hW6) (block_lt HZ5.out) HZ5.out
  have HB6 := Lib.hid (HB5.out.trans ((below_new _ _ hW6).mono HB5.out.size))
  have HZ6 := Lib.hid hz
  rw [hW6]
  obtain ⟨F, eF⟩ : ∃ D, w5.heap.size = D := ⟨_, rfl⟩
  rw [eF] at hT ⊢
  have kT := block_cells hT
  have kZ := block_cells hz
  have fZ := block_free hz
  clear hW6 eF hT hz
  go_wp2_with fail
  have F := putJ_ok HZ6.out (.int .u16 j.ov) (.int .u16 j.ox) (.int .u16 j.ol) (.int .i64 j.oe) (.int .i64 j.ok) (.int .u16 j.nv) (.int .u16 j.nx) (.int .u16 j.nl) (.int .i64 j.ne) (.int .i64 j.nk) (.bool j.two)
  have HBF := below_grown HB6.out F.2 HB6.out.size (by rw [HEA.out]; omega)
  obtain ⟨W4, hW4⟩ : ∃ W4, putJ W6 (A + 1) (.int .u16 j.ov) (.int .u16 j.ox) (.int .u16 j.ol) (.int .i64 j.oe) (.int .i64 j.ok) (.int .u16 j.nv) (.int .u16 j.nx) (.int .u16 j.nl) (.int .i64 j.ne) (.int .i64 j.nk) (.bool j.two) = W4 := ⟨_, rfl⟩
  rw [hW4] at F HBF
  have kF := block_cells F.1
  unfold putJ at hW4
  rw [hW4]
  clear hW4 F
  refine bodyPost_ret (v := .agg #[.int .u16 j.ov, .int .u16 j.ox, .int .u16 j.ol, .int .i64 j.oe, .int .i64 j.ok, .int .u16 j.nv, .int .u16 j.nx, .int .u16 j.nl, .int .i64 j.ne, .int .i64 j.nk, .bool j.two]) ?_ rfl ⟨rfl, HBF⟩
  simp [results, Try.results35, go_sem, kF]
end Go.Proofs.Ytabiccpodnjieaa
