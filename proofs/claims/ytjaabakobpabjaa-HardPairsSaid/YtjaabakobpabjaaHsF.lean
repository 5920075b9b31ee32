/- Hard: what a record says to a core; a new core; lists of joints and of records. -/
import Derived.Test.YtjaabakobpabjaaHsC
import Derived.Test.YtjaabakobpabjaaHsE
namespace Go.Proofs.Ytjaabakobpabjaa
open Go.ChangeShapes Go.WideShapes Go.ChangeAt Go.RowKit

theorem says_any (a : Int) (B G R n cap : Nat) (l : List CoX) (x : CoX) (xs : List Int) (w : World) (hl : CsAt B w (.slice (some ⟨G, 0, none⟩) l.length cap) l) (hn : n < l.length) (hx : l[n] = x) (hf : LgFit x.c.l) (hr : HrW B w R xs false) :
    Calls Try.prog 31 #[.pointer (some ⟨G, n * 45, none⟩), .int .u8 a, .pointer (some ⟨R, 0, none⟩)] w (SayE B G cap l n x w (sayB a xs)) := by
  by_cases h72 : a = 72
  · subst h72; exact says_H B G R n cap l x xs w hl hn hx hf hr
  by_cases h83 : a = 83
  · subst h83; exact says_S B G R n cap l x xs w hl hn hx hf hr
  by_cases h69 : a = 69
  · subst h69
    by_cases hk : (rd2 hrC (rd2 hrC (rd2 rdNw rdTw)) xs false).1.2.2.1 = 2
    · exact says_E1 B G R n cap l x xs w hl hn hx hf hr hk
    · exact says_E0 B G R n cap l x xs w hl hn hx hf hr hk
  by_cases h88 : a = 88
  · subst h88; exact says_X B G R n cap l x xs w hl hn hx hf hr
  exact says_none a h72 h83 h69 h88 B G R n cap l x xs w hl hn hx hf hr
set_option maxRecDepth 100000 in
set_option maxHeartbeats 4000000 in
theorem hcnew_any (id : Int) (j : Jn) (w : World) :
    Calls Try.prog 28 #[.int .i64 id, .agg #[.int .u16 j.ov, .int .u16 j.ox, .int .u16 j.ol, .int .i64 j.oe, .int .i64 j.ok, .int .u16 j.nv, .int .u16 j.nx, .int .u16 j.nl, .int .i64 j.ne, .int .i64 j.nk, .bool j.two]] w fun e w' => e = .returned (.agg (coL (newCo id j) none 0).toArray) ∧ Below w.heap.size w w' := by
  obtain ⟨W, hW⟩ : ∃ z : World, w.alloc (.cells #[.int .u16 j.ov, .int .u16 j.ox, .int .u16 j.ol, .int .i64 j.oe, .int .i64 j.ok, .int .u16 j.nv, .int .u16 j.nx, .int .u16 j.nl, .int .i64 j.ne, .int .i64 j.nk, .bool j.two] 42) = z := ⟨_, rfl⟩
  have hb : Below w.heap.size w W := by rw [← hW]; exact (Below.refl _ _).alloc (Nat.le_refl _) _
  have hq : W.heap[w.heap.size]? = some (.cells #[.int .u16 j.ov, .int .u16 j.ox, .int .u16 j.ol, .int .i64 j.oe, .int .i64 j.ok, .int .u16 j.nv, .int .u16 j.nx, .int .u16 j.nl, .int .i64 j.ne, .int .i64 j.nk, .bool j.two] 42 (0, 0)) := by rw [← hW]; exact heap_last w _
  have hz : W.heap.size = w.heap.size + 1 := by rw [← hW]; simp
  have HB := Lib.hid hb; have HW := Lib.hid hW; have HZ := Lib.hid hz; have HQ := Lib.hid hq
  clear hb hW hz hq
  go_enter Try.func28, Try.ntmps28
  go_upto_region 1 with fail
  rw [HW.out, ← HZ.out]
  have hq2 := heap_prev (.cells #[.int .i64 0, .int .i64 0, .int .i64 0, .int .i64 0, .int .i64 0, .int .i64 0, .int .i64 0, .int .i64 0, .int .i64 0, .int .i64 0, .int .u16 0, .int .u16 0, .int .u16 0, .int .i64 0, .int .i64 0, .int .u16 0, .int .u16 0, .int .u16 0, .int .i64 0, .int .i64 0, .bool false, .slice none 0 0, .string ⟨#[]⟩, .int .u16 0, .int .u16 0, .int .i64 0, .int .i64 0, .int .i64 0, .int .i64 0, .int .i64 0, .int .i64 0, .int .i64 0, .int .i64 0, .int .i64 0, .int .i64 0, .int .i64 0, .int .i64 0, .int .i64 0, .int .i64 0, .int .i64 0, .int .i64 0, .int .i64 0, .int .i64 0, .int .i64 0, .int .i64 0] 48) HQ.out
  have kJ := block_cells hq2
  clear hq2
  go_wp2_with (with_reducible refine wpList_store_new (op := ⟨none, .store 48 _ _, _, _, _, _⟩) rfl _ _ _ rfl _ (coL (newCo id j) none 0).toArray rfl rfl (by kernel_rfl) rfl (one_all rfl) ?_)
  have hC := heap_last W (.cells (coL (newCo id j) none 0).toArray 48)
  refine bodyPost_ret (v := .agg (coL (newCo id j) none 0).toArray) ?_ rfl ⟨rfl, HB.out.trans ((Below.refl _ _).alloc HB.out.size _)⟩
  exact results_cell_row rfl _ _ W.heap.size _ _ _ _ (by rfl) hC Try.underlying48 rfl (by kernel_rfl)
end Go.Proofs.Ytjaabakobpabjaa
