import Derived.Test.YtabiccpodnjieaaLogN1
import Derived.Test.YtabiccpodnjieaaLogN2
import Derived.Test.YtabiccpodnjieaaLogN3
import Derived.Test.YtabiccpodnjieaaLogN4
import Derived.Test.YtabiccpodnjieaaLogN5
import Derived.Test.YtabiccpodnjieaaLogN6
import Derived.Test.YtabiccpodnjieaaLogN7
import Derived.Test.YtabiccpodnjieaaLogN8
import Derived.Test.YtabiccpodnjieaaLogN9
import Derived.Test.YtabiccpodnjieaaLogS0
import Derived.Test.YtabiccpodnjieaaLogG
import Derived.Test.YtabiccpodnjieaaLogZ0
/- entries: Merge. -/
namespace Go.Proofs.Ytabiccpodnjieaa
open Go.ChangeShapes Go.WideShapes Go.ChangeAt Go.RowKit

set_option maxRecDepth 100000 in
set_option maxHeartbeats 16000000 in
theorem merge_any (l : Lg) (p : Option Addr) (c : Nat) (prev term : Int) (es : List Ent) (p2 : Option Addr) (c2 : Nat) (w : World) (hF : LgFit l) (hp : -9223372036854775808 ≤ prev ∧ prev ≤ 9223372036854775807) (hE : EnSl w (.slice p l.es.length c) l.es) (h2 : EnSl w (.slice p2 es.length c2) es) (hl : l.es.length + es.length ≤ 1000000) :
    Calls Try.prog 15 #[.agg #[.int .i64 l.b, .int .i64 l.bt, .int .u16 l.j.ov, .int .u16 l.j.ox, .int .u16 l.j.ol, .int .i64 l.j.oe, .int .i64 l.j.ok, .int .u16 l.j.nv, .int .u16 l.j.nx, .int .u16 l.j.nl, .int .i64 l.j.ne, .int .i64 l.j.nk, .bool l.j.two, .slice p l.es.length c], .int .i64 prev, .int .i64 term, .slice p2 es.length c2] w (LgEnd3 w.heap.size w (mergeL l prev term es)) := by
  by_cases ho : l.last < prev ∨ prev < 0
  · exact merge_out l p c prev term es p2 c2 w hF hp hE h2 hl ho
  · rcases Bool.eq_false_or_eq_true (refusedL l prev term es.length) with hrf | hrf
    · exact merge_ref l p c prev term es p2 c2 w hF hp hE h2 hl ho hrf
    · by_cases hb : l.b ≤ prev
      · by_cases hz : es.length = 0
        · exact merge_high0 l p c prev term es p2 c2 w hF hp hE h2 hl ho hrf hb hz
        · have hz' : 0 < es.length := by omega
          cases hc : cutAt l prev es with
          | none => exact merge_high_none l p c prev term es p2 c2 w hF hp hE h2 hl ho hrf hb hz' (cutAt_isnone hc)
          | some k0 =>
            obtain ⟨h1, h3, h4⟩ := cutAt_is hc
            rcases Bool.eq_false_or_eq_true (termL l (prev + 1 + k0)).2 with hb2 | hb2
            · exact merge_high_true l p c prev term es p2 c2 w hF hp hE h2 hl ho hrf hb hz' k0 h1 h4 h3 hb2
            · exact merge_high_false l p c prev term es p2 c2 w hF hp hE h2 hl ho hrf hb hz' k0 h1 h4 h3 hb2
      · have hlb : prev < l.b := by omega
        by_cases hz : es.length ≤ (l.b - prev).toNat
        · exact merge_low0 l p c prev term es p2 c2 w hF hp hE h2 hl ho hrf hlb hz
        · have hz' : 0 < (es.drop (l.b - prev).toNat).length := by rw [List.length_drop]; omega
          have hd : l.b - prev = ((l.b - prev).toNat : Int) := by omega
          cases hc : cutAt l l.b (es.drop (l.b - prev).toNat) with
          | none => exact merge_low_none l p c prev term es p2 c2 w hF hp hE h2 hl ho hrf hlb _ _ hd rfl hz' (cutAt_isnone hc)
          | some k0 =>
            obtain ⟨h1, h3, h4⟩ := cutAt_is hc
            rcases Bool.eq_false_or_eq_true (termL l (l.b + 1 + k0)).2 with hb2 | hb2
            · exact merge_low_true l p c prev term es p2 c2 w hF hp hE h2 hl ho hrf hlb _ _ hd rfl hz' k0 h1 h4 h3 hb2
            · exact merge_low_false l p c prev term es p2 c2 w hF hp hE h2 hl ho hrf hlb _ _ hd rfl hz' k0 h1 h4 h3 hb2
end Go.Proofs.Ytabiccpodnjieaa
/- The reference of entries: Push. -/
namespace Go.Proofs.Ytabiccpodnjieaa
open Go.ChangeShapes Go.WideShapes Go.ChangeAt Go.RowKit

theorem cutV {R : World → Option Addr → Nat → Prop} {P : Nat → Nat → Value → Option Addr → Nat → World → Prop} {Q : Prop} (h : (∀ a b v q c w, R w q c → P a b v q c w) → Q) (p : ∀ a b v q c w, R w q c → P a b v q c w) : Q := h p
set_option maxRecDepth 100000 in
set_option maxHeartbeats 16000000 in
theorem rpush_any (l : Lg) (p : Option Addr) (c : Nat) (e : Ent) (w : World) (hE : EnSl w (.slice p l.es.length c) l.es) (hn : l.es.length < 1000000) :
    Calls Try.prog 24 #[.agg #[.int .i64 l.b, .int .i64 l.bt, .int .u16 l.j.ov, .int .u16 l.j.ox, .int .u16 l.j.ol, .int .i64 l.j.oe, .int .i64 l.j.ok, .int .u16 l.j.nv, .int .u16 l.j.nx, .int .u16 l.j.nl, .int .i64 l.j.ne, .int .i64 l.j.nk, .bool l.j.two, .slice p l.es.length c], .agg #[.int .i64 e.t, .int .i64 e.k, .string e.d, .int .u16 e.j.ov, .int .u16 e.j.ox, .int .u16 e.j.ol, .int .i64 e.j.oe, .int .i64 e.j.ok, .int .u16 e.j.nv, .int .u16 e.j.nx, .int .u16 e.j.nl, .int .i64 e.j.ne, .int .i64 e.j.nk, .bool e.j.two]] w (LgEnd w.heap.size w (pushL l e)) := by
  obtain ⟨i0, hi, hz0, hz1, hz2⟩ := info_parts Try.infoEn
  have HE := Lib.hid hE
  clear hE
  go_enter Try.func24, Try.ntmps24
  go_upto_region 1 with fail
  rename_i K hK
  obtain ⟨W0, hW0⟩ : ∃ W0, w.alloc (.cells #[.int .i64 l.b, .int .i64 l.bt, .int .u16 l.j.ov, .int .u16 l.j.ox, .int .u16 l.j.ol, .int .i64 l.j.oe, .int .i64 l.j.ok, .int .u16 l.j.nv, .int .u16 l.j.nx, .int .u16 l.j.nl, .int .i64 l.j.ne, .int .i64 l.j.nk, .bool l.j.two, .slice p l.es.length c] 32) = W0 := ⟨_, rfl⟩
  obtain ⟨W1, hW1⟩ : ∃ W1, W0.alloc (.cells #[.int .i64 e.t, .int .i64 e.k, .string e.d, .int .u16 e.j.ov, .int .u16 e.j.ox, .int .u16 e.j.ol, .int .i64 e.j.oe, .int .i64 e.j.ok, .int .u16 e.j.nv, .int .u16 e.j.nx, .int .u16 e.j.nl, .int .i64 e.j.ne, .int .i64 e.j.nk, .bool e.j.two] 47) = W1 := ⟨_, rfl⟩
  obtain ⟨W, hW⟩ : ∃ W, W1.alloc (.cells #[.int .i64 0, .int .i64 0, .int .u16 0, .int .u16 0, .int .u16 0, .int .i64 0, .int .i64 0, .int .u16 0, .int .u16 0, .int .u16 0, .int .i64 0, .int .i64 0, .bool false, .slice none 0 0] 32) = W := ⟨_, rfl⟩
  have hs0 : W0.heap.size = w.heap.size + 1 := by rw [← hW0]; simp
  have hs1 : W1.heap.size = w.heap.size + 1 + 1 := by rw [← hW1]; simp; omega
  have hs2 : W.heap.size = w.heap.size + 3 := by rw [← hW]; simp; omega
  have LL := (Lies.new HE.out hW0).keep (below_new _ _ hW1) |>.keep (below_new _ _ hW)
  have hEE : W1.heap[w.heap.size + 1]? = some (.cells #[.int .i64 e.t, .int .i64 e.k, .string e.d, .int .u16 e.j.ov, .int .u16 e.j.ox, .int .u16 e.j.ol, .int .i64 e.j.oe, .int .i64 e.j.ok, .int .u16 e.j.nv, .int .u16 e.j.nx, .int .u16 e.j.nl, .int .i64 e.j.ne, .int .i64 e.j.nk, .bool e.j.two] 47 (0, 0)) := by rw [← hW1, ← hs0]; exact heap_last _ _
  have hE2 := below_block (below_new _ _ hW) (block_lt hEE) hEE
  have hZ : W.heap[w.heap.size + 1 + 1]? = some (.cells #[.int .i64 0, .int .i64 0, .int .u16 0, .int .u16 0, .int .u16 0, .int .i64 0, .int .i64 0, .int .u16 0, .int .u16 0, .int .u16 0, .int .i64 0, .int .i64 0, .bool false, .slice none 0 0] 32 (0, 0)) := by rw [← hW, ← hs1]; exact heap_last _ _
  have hB := ((below_new _ _ hW0).trans ((below_new _ _ hW1).mono (by omega))).trans ((below_new _ _ hW).mono (by omega : w.heap.size ≤ W1.heap.size))
  rw [hW0, hW1, hW]
  obtain ⟨A, eA⟩ : ∃ A, w.heap.size = A := ⟨_, rfl⟩
  have HEA : Hid (w.heap.size = A) := eA
  rw [eA] at LL hE2 hZ hs2 ⊢
  have HPW : Hid (BoxW w A (A + 1 + 1) W.heap.size l p c W) := ⟨LL.h, hZ, by rw [← eA]; exact hB, Nat.le_refl _, by omega, by omega⟩
  have HSW := Lib.hid LL.e
  have kA := block_cells LL.h
  have fA := block_free LL.h
  have kE := block_cells hE2
  have hAW : A < W.heap.size := by omega
  have hAW1 : A + 1 < W.heap.size := by omega
  have hAW2 : A + 1 + 1 < W.heap.size := by omega
  have HSI := Lib.hid hs2
  clear hW0 hW1 hW hs0 hs1 hs2 LL hEE hZ hB eA HE
  have hpa := HPW.out.alloc (.cells #[] 47)
  have HPa := Lib.hid (hpa.keep (Below.refl _ _).drew)
  have HPb := Lib.hid ((hpa.alloc (.cells #[.int .i64 e.t, .int .i64 e.k, .string e.d, .int .u16 e.j.ov, .int .u16 e.j.ox, .int .u16 e.j.ol, .int .i64 e.j.oe, .int .i64 e.j.ok, .int .u16 e.j.nv, .int .u16 e.j.nx, .int .u16 e.j.nl, .int .i64 e.j.ne, .int .i64 e.j.nk, .bool e.j.two] 47)).keep (Below.refl _ _).drew)
  clear hpa
  have HPc := Lib.hid (((HPW.out.alloc (.cells #[.int .i64 e.t, .int .i64 e.k, .string e.d, .int .u16 e.j.ov, .int .u16 e.j.ox, .int .u16 e.j.ol, .int .i64 e.j.oe, .int .i64 e.j.ok, .int .u16 e.j.nv, .int .u16 e.j.nx, .int .u16 e.j.nl, .int .i64 e.j.ne, .int .i64 e.j.nk, .bool e.j.two] 47)).alloc (.cells #[] 47)).keep (Below.refl _ _).drew)
  have hoa : (W.alloc (.cells #[] 47)).ownsRow W.heap.size 47 14 (.slice (some ⟨W.heap.size, 0, none⟩) 0 0) 0 [] := World.ownsRow_made W #[] 0 (Nat.le_refl _) (Nat.zero_le _) (by simp)
  have HOa := Lib.hid (own_belowL hoa (Below.refl _ _).drew (Nat.le_refl _))
  have HOb := Lib.hid (own_belowL (own_belowL hoa (below_new (W.alloc (.cells #[] 47)) (.cells #[.int .i64 e.t, .int .i64 e.k, .string e.d, .int .u16 e.j.ov, .int .u16 e.j.ox, .int .u16 e.j.ol, .int .i64 e.j.oe, .int .i64 e.j.ok, .int .u16 e.j.nv, .int .u16 e.j.nx, .int .u16 e.j.nl, .int .i64 e.j.ne, .int .i64 e.j.nk, .bool e.j.two] 47) rfl) (Nat.le_refl _)) (Below.refl _ _).drew (Nat.le_refl _))
  clear hoa
  have hoc : ((W.alloc (.cells #[.int .i64 e.t, .int .i64 e.k, .string e.d, .int .u16 e.j.ov, .int .u16 e.j.ox, .int .u16 e.j.ol, .int .i64 e.j.oe, .int .i64 e.j.ok, .int .u16 e.j.nv, .int .u16 e.j.nx, .int .u16 e.j.nl, .int .i64 e.j.ne, .int .i64 e.j.nk, .bool e.j.two] 47)).alloc (.cells #[] 47)).ownsRow W.heap.size 47 14 (.slice (some ⟨(W.alloc (.cells #[.int .i64 e.t, .int .i64 e.k, .string e.d, .int .u16 e.j.ov, .int .u16 e.j.ox, .int .u16 e.j.ol, .int .i64 e.j.oe, .int .i64 e.j.ok, .int .u16 e.j.nv, .int .u16 e.j.nx, .int .u16 e.j.nl, .int .i64 e.j.ne, .int .i64 e.j.nk, .bool e.j.two] 47)).heap.size, 0, none⟩) 0 0) 0 [] := (World.ownsRow_made (W.alloc (.cells #[.int .i64 e.t, .int .i64 e.k, .string e.d, .int .u16 e.j.ov, .int .u16 e.j.ox, .int .u16 e.j.ol, .int .i64 e.j.oe, .int .i64 e.j.ok, .int .u16 e.j.nv, .int .u16 e.j.nx, .int .u16 e.j.nl, .int .i64 e.j.ne, .int .i64 e.j.nk, .bool e.j.two] 47)) #[] 0 (Nat.le_refl _) (Nat.zero_le _) (by simp)).mono (by simp)
  have e1 : (W.alloc (.cells #[.int .i64 e.t, .int .i64 e.k, .string e.d, .int .u16 e.j.ov, .int .u16 e.j.ox, .int .u16 e.j.ol, .int .i64 e.j.oe, .int .i64 e.j.ok, .int .u16 e.j.nv, .int .u16 e.j.nx, .int .u16 e.j.nl, .int .i64 e.j.ne, .int .i64 e.j.nk, .bool e.j.two] 47)).heap.size = W.heap.size + 1 := by simp
  have e2 : (W.alloc (.cells #[] 47)).heap.size = W.heap.size + 1 := by simp
  rw [e1] at hoc
  have HOc := Lib.hid (own_belowL hoc (Below.refl _ _).drew (Nat.le_refl _))
  clear hoc
  have hsa := HSW.out.keep (below_new W (.cells #[] 47) rfl) (Nat.le_refl _)
  have HSa := Lib.hid (hsa.keep (Below.refl _ _).drew (Nat.le_refl _))
  have HSb := Lib.hid ((hsa.keep (below_new _ (.cells #[.int .i64 e.t, .int .i64 e.k, .string e.d, .int .u16 e.j.ov, .int .u16 e.j.ox, .int .u16 e.j.ol, .int .i64 e.j.oe, .int .i64 e.j.ok, .int .u16 e.j.nv, .int .u16 e.j.nx, .int .u16 e.j.nl, .int .i64 e.j.ne, .int .i64 e.j.nk, .bool e.j.two] 47) rfl) (Nat.le_refl _)).keep (Below.refl _ _).drew (Nat.le_refl _))
  clear hsa
  have HSc := Lib.hid (((HSW.out.keep (below_new W (.cells #[.int .i64 e.t, .int .i64 e.k, .string e.d, .int .u16 e.j.ov, .int .u16 e.j.ox, .int .u16 e.j.ol, .int .i64 e.j.oe, .int .i64 e.j.ok, .int .u16 e.j.nv, .int .u16 e.j.nx, .int .u16 e.j.nl, .int .i64 e.j.ne, .int .i64 e.j.nk, .bool e.j.two] 47) rfl) (Nat.le_refl _)).keep (below_new _ (.cells #[] 47) rfl) (Nat.le_refl _)).keep (Below.refl _ _).drew (Nat.le_refl _))
  have HTa : Hid (∀ w8, (W.alloc (.cells #[] 47)).drew.grownBy w8 (some W.heap.size) → True) := fun _ _ => trivial
  have HTb : Hid (∀ w8, ((W.alloc (.cells #[] 47)).alloc (.cells #[.int .i64 e.t, .int .i64 e.k, .string e.d, .int .u16 e.j.ov, .int .u16 e.j.ox, .int .u16 e.j.ol, .int .i64 e.j.oe, .int .i64 e.j.ok, .int .u16 e.j.nv, .int .u16 e.j.nx, .int .u16 e.j.nl, .int .i64 e.j.ne, .int .i64 e.j.nk, .bool e.j.two] 47)).drew.grownBy w8 (some W.heap.size) → EnSl w8 (.slice (some ⟨W.heap.size + 1, 0, none⟩) [e].length 1) [e]) := fun w8 hg => by
    have := EnSl.one (e := e) ((hg.block (W.alloc (.cells #[] 47)).heap.size (by show _ < ((W.alloc (.cells #[] 47)).alloc (.cells #[.int .i64 e.t, .int .i64 e.k, .string e.d, .int .u16 e.j.ov, .int .u16 e.j.ox, .int .u16 e.j.ol, .int .i64 e.j.oe, .int .i64 e.j.ok, .int .u16 e.j.nv, .int .u16 e.j.nx, .int .u16 e.j.nl, .int .i64 e.j.ne, .int .i64 e.j.nk, .bool e.j.two] 47)).heap.size; simp) (by simp)).trans (heap_last (W.alloc (.cells #[] 47)) (.cells #[.int .i64 e.t, .int .i64 e.k, .string e.d, .int .u16 e.j.ov, .int .u16 e.j.ox, .int .u16 e.j.ol, .int .i64 e.j.oe, .int .i64 e.j.ok, .int .u16 e.j.nv, .int .u16 e.j.nx, .int .u16 e.j.nl, .int .i64 e.j.ne, .int .i64 e.j.nk, .bool e.j.two] 47)))
    rwa [e2] at this
  have HTc : Hid (∀ w8, ((W.alloc (.cells #[.int .i64 e.t, .int .i64 e.k, .string e.d, .int .u16 e.j.ov, .int .u16 e.j.ox, .int .u16 e.j.ol, .int .i64 e.j.oe, .int .i64 e.j.ok, .int .u16 e.j.nv, .int .u16 e.j.nx, .int .u16 e.j.nl, .int .i64 e.j.ne, .int .i64 e.j.nk, .bool e.j.two] 47)).alloc (.cells #[] 47)).drew.grownBy w8 (some (W.heap.size + 1)) → EnSl w8 (.slice (some ⟨W.heap.size, 0, none⟩) [e].length 1) [e]) := fun w8 hg =>
    EnSl.one ((hg.block W.heap.size (by show _ < ((W.alloc (.cells #[.int .i64 e.t, .int .i64 e.k, .string e.d, .int .u16 e.j.ov, .int .u16 e.j.ox, .int .u16 e.j.ol, .int .i64 e.j.oe, .int .i64 e.j.ok, .int .u16 e.j.nv, .int .u16 e.j.nx, .int .u16 e.j.nl, .int .i64 e.j.ne, .int .i64 e.j.nk, .bool e.j.two] 47)).alloc (.cells #[] 47)).heap.size; simp; omega) (by simp)).trans (heap_prev _ (heap_last W (.cells #[.int .i64 e.t, .int .i64 e.k, .string e.d, .int .u16 e.j.ov, .int .u16 e.j.ox, .int .u16 e.j.ol, .int .i64 e.j.oe, .int .i64 e.j.ok, .int .u16 e.j.nv, .int .u16 e.j.nx, .int .u16 e.j.nl, .int .i64 e.j.ne, .int .i64 e.j.nk, .bool e.j.two] 47))))
  have HKa : Hid (∀ w8, (W.alloc (.cells #[] 47)).drew.grownBy w8 (some W.heap.size) → w8.heap[A + 1]? = some (.cells #[.int .i64 e.t, .int .i64 e.k, .string e.d, .int .u16 e.j.ov, .int .u16 e.j.ox, .int .u16 e.j.ol, .int .i64 e.j.oe, .int .i64 e.j.ok, .int .u16 e.j.nv, .int .u16 e.j.nx, .int .u16 e.j.nl, .int .i64 e.j.ne, .int .i64 e.j.nk, .bool e.j.two] 47 (0, 0))) := fun w8 hg => (hg.block (A + 1) (by show _ < (W.alloc (.cells #[] 47)).heap.size; simp; omega) (by simp; omega)).trans (heap_prev _ hE2)
  have HKb : Hid (∀ w8, ((W.alloc (.cells #[] 47)).alloc (.cells #[.int .i64 e.t, .int .i64 e.k, .string e.d, .int .u16 e.j.ov, .int .u16 e.j.ox, .int .u16 e.j.ol, .int .i64 e.j.oe, .int .i64 e.j.ok, .int .u16 e.j.nv, .int .u16 e.j.nx, .int .u16 e.j.nl, .int .i64 e.j.ne, .int .i64 e.j.nk, .bool e.j.two] 47)).drew.grownBy w8 (some W.heap.size) → w8.heap[A + 1]? = some (.cells #[.int .i64 e.t, .int .i64 e.k, .string e.d, .int .u16 e.j.ov, .int .u16 e.j.ox, .int .u16 e.j.ol, .int .i64 e.j.oe, .int .i64 e.j.ok, .int .u16 e.j.nv, .int .u16 e.j.nx, .int .u16 e.j.nl, .int .i64 e.j.ne, .int .i64 e.j.nk, .bool e.j.two] 47 (0, 0))) := fun w8 hg => (hg.block (A + 1) (by show _ < ((W.alloc (.cells #[] 47)).alloc (.cells #[.int .i64 e.t, .int .i64 e.k, .string e.d, .int .u16 e.j.ov, .int .u16 e.j.ox, .int .u16 e.j.ol, .int .i64 e.j.oe, .int .i64 e.j.ok, .int .u16 e.j.nv, .int .u16 e.j.nx, .int .u16 e.j.nl, .int .i64 e.j.ne, .int .i64 e.j.nk, .bool e.j.two] 47)).heap.size; simp; omega) (by simp; omega)).trans (heap_prev _ (heap_prev _ hE2))
  have HKc : Hid (∀ w8, ((W.alloc (.cells #[.int .i64 e.t, .int .i64 e.k, .string e.d, .int .u16 e.j.ov, .int .u16 e.j.ox, .int .u16 e.j.ol, .int .i64 e.j.oe, .int .i64 e.j.ok, .int .u16 e.j.nv, .int .u16 e.j.nx, .int .u16 e.j.nl, .int .i64 e.j.ne, .int .i64 e.j.nk, .bool e.j.two] 47)).alloc (.cells #[] 47)).drew.grownBy w8 (some (W.heap.size + 1)) → w8.heap[A + 1]? = some (.cells #[.int .i64 e.t, .int .i64 e.k, .string e.d, .int .u16 e.j.ov, .int .u16 e.j.ox, .int .u16 e.j.ol, .int .i64 e.j.oe, .int .i64 e.j.ok, .int .u16 e.j.nv, .int .u16 e.j.nx, .int .u16 e.j.nl, .int .i64 e.j.ne, .int .i64 e.j.nk, .bool e.j.two] 47 (0, 0))) := fun w8 hg => (hg.block (A + 1) (by show _ < ((W.alloc (.cells #[.int .i64 e.t, .int .i64 e.k, .string e.d, .int .u16 e.j.ov, .int .u16 e.j.ox, .int .u16 e.j.ol, .int .i64 e.j.oe, .int .i64 e.j.ok, .int .u16 e.j.nv, .int .u16 e.j.nx, .int .u16 e.j.nl, .int .i64 e.j.ne, .int .i64 e.j.nk, .bool e.j.two] 47)).alloc (.cells #[] 47)).heap.size; simp; omega) (by simp; omega)).trans (heap_prev _ (heap_prev _ hE2))
  clear hE2
  have HZa : Hid (W.heap.size ≤ (W.alloc (.cells #[] 47)).drew.heap.size) := by show _ ≤ (W.alloc (.cells #[] 47)).heap.size; simp
  have HZb : Hid (W.heap.size ≤ ((W.alloc (.cells #[] 47)).alloc (.cells #[.int .i64 e.t, .int .i64 e.k, .string e.d, .int .u16 e.j.ov, .int .u16 e.j.ox, .int .u16 e.j.ol, .int .i64 e.j.oe, .int .i64 e.j.ok, .int .u16 e.j.nv, .int .u16 e.j.nx, .int .u16 e.j.nl, .int .i64 e.j.ne, .int .i64 e.j.nk, .bool e.j.two] 47)).drew.heap.size) := by show _ ≤ ((W.alloc (.cells #[] 47)).alloc (.cells #[.int .i64 e.t, .int .i64 e.k, .string e.d, .int .u16 e.j.ov, .int .u16 e.j.ox, .int .u16 e.j.ol, .int .i64 e.j.oe, .int .i64 e.j.ok, .int .u16 e.j.nv, .int .u16 e.j.nx, .int .u16 e.j.nl, .int .i64 e.j.ne, .int .i64 e.j.nk, .bool e.j.two] 47)).heap.size; simp; omega
  have HZc : Hid (W.heap.size ≤ ((W.alloc (.cells #[.int .i64 e.t, .int .i64 e.k, .string e.d, .int .u16 e.j.ov, .int .u16 e.j.ox, .int .u16 e.j.ol, .int .i64 e.j.oe, .int .i64 e.j.ok, .int .u16 e.j.nv, .int .u16 e.j.nx, .int .u16 e.j.nl, .int .i64 e.j.ne, .int .i64 e.j.nk, .bool e.j.two] 47)).alloc (.cells #[] 47)).drew.heap.size) := by show _ ≤ ((W.alloc (.cells #[.int .i64 e.t, .int .i64 e.k, .string e.d, .int .u16 e.j.ov, .int .u16 e.j.ox, .int .u16 e.j.ol, .int .i64 e.j.oe, .int .i64 e.j.ok, .int .u16 e.j.nv, .int .u16 e.j.nx, .int .u16 e.j.nl, .int .i64 e.j.ne, .int .i64 e.j.nk, .bool e.j.two] 47)).alloc (.cells #[] 47)).heap.size; simp; omega
  have H63 : Hid (0 + l.es.length ≤ maxLen) := by show _ ≤ _; unfold maxLen; omega
  have HBY : Hid ((0 + l.es.length) * 88 ≤ 140737488355328) := by show _ ≤ _; omega
  have H63b : Hid (0 + l.es.length + 1 ≤ maxLen) := by show _ ≤ _; unfold maxLen; omega
  have HBYb : Hid ((0 + l.es.length + 1) * 88 ≤ 140737488355328) := by show _ ≤ _; omega
  clear e1 e2
  obtain ⟨L2, hL2⟩ : ∃ L2, l.es ++ [e] = L2 := ⟨_, rfl⟩
  have HL2 : Hid (L2.length = 0 + l.es.length + 1) := by show _ = _; rw [← hL2]; simp
  have HR2 : Hid ([] ++ entRow l.es ++ entRow [e] = entRow L2) := by show _ = _; rw [← hL2, entRow_app]; simp
  have HLP : Hid (pushL l e = ⟨l.b, l.bt, l.j, L2⟩) := by show _ = _; unfold pushL; rw [hL2]
  clear hL2
  have HL := Lib.hid (entC_one l.es)
  have HL1 := Lib.hid (entC_one [e])
  apply cutV (R := fun w' q cc => BoxW w A (A + 1 + 1) W.heap.size l p c w' ∧ w'.ownsRow W.heap.size 47 14 (.slice q L2.length cc) L2.length (entRow L2))
    (P := fun a b v q cc w' => K { tmps := #[.agg #[.int .i64 l.b, .int .i64 l.bt, .int .u16 l.j.ov, .int .u16 l.j.ox, .int .u16 l.j.ol, .int .i64 l.j.oe, .int .i64 l.j.ok, .int .u16 l.j.nv, .int .u16 l.j.nx, .int .u16 l.j.nl, .int .i64 l.j.ne, .int .i64 l.j.nk, .bool l.j.two, .slice p l.es.length c], .agg #[.int .i64 e.t, .int .i64 e.k, .string e.d, .int .u16 e.j.ov, .int .u16 e.j.ox, .int .u16 e.j.ol, .int .i64 e.j.oe, .int .i64 e.j.ok, .int .u16 e.j.nv, .int .u16 e.j.nx, .int .u16 e.j.nl, .int .i64 e.j.ne, .int .i64 e.j.nk, .bool e.j.two], .pointer (some ⟨A, 0, none⟩), .pointer (some ⟨A + 1, 0, none⟩), .pointer (some ⟨A + 1 + 1, 0, none⟩), .slice (some ⟨a, 0, none⟩) 0 0, .pointer (some ⟨A, 13, none⟩), .slice p l.es.length c, v, .agg #[.int .i64 e.t, .int .i64 e.k, .string e.d, .int .u16 e.j.ov, .int .u16 e.j.ox, .int .u16 e.j.ol, .int .i64 e.j.oe, .int .i64 e.j.ok, .int .u16 e.j.nv, .int .u16 e.j.nx, .int .u16 e.j.nl, .int .i64 e.j.ne, .int .i64 e.j.nk, .bool e.j.two], .slice (some ⟨b, 0, none⟩) 1 1, .slice q L2.length cc, .pointer (some ⟨A, 13, none⟩), undef], defers := [] } (w'.setCell ⟨A, 13, none⟩ (.slice q L2.length cc)))
  · intro h
    go_region_law ((first | (refine step_append_sl (by rfl) _ _ 30 (by rfl) W.heap.size 47 i0 (.agg #[.int .i64 0, .int .i64 0, .string ⟨#[]⟩, .int .u16 0, .int .u16 0, .int .u16 0, .int .i64 0, .int .i64 0, .int .u16 0, .int .u16 0, .int .u16 0, .int .i64 0, .int .i64 0, .bool false]) 14 88 Try.underlying30 hi hz0 hz1 hz2 rfl (by decide) _ 0 [] (by rfl) HOa.out _ _ l.es.length (entRow l.es) (by rfl) HSa.out HL.out H63.out HBY.out HZa.out ?_; intro v8 w8 hown8 hgr8; have HP8 := Lib.hid (HPa.out.grown hgr8 (fun k hk => (own_geL HOa.out k hk).1)); have HT8 := HTa.out w8 hgr8; have kE8 := block_cells (HKa.out w8 hgr8)) | (refine step_append_sl (by rfl) _ _ 30 (by rfl) W.heap.size 47 i0 (.agg #[.int .i64 0, .int .i64 0, .string ⟨#[]⟩, .int .u16 0, .int .u16 0, .int .u16 0, .int .i64 0, .int .i64 0, .int .u16 0, .int .u16 0, .int .u16 0, .int .i64 0, .int .i64 0, .bool false]) 14 88 Try.underlying30 hi hz0 hz1 hz2 rfl (by decide) _ 0 [] (by rfl) HOb.out _ _ l.es.length (entRow l.es) (by rfl) HSb.out HL.out H63.out HBY.out HZb.out ?_; intro v8 w8 hown8 hgr8; have HP8 := Lib.hid (HPb.out.grown hgr8 (fun k hk => (own_geL HOb.out k hk).1)); have HT8 := HTb.out w8 hgr8; have kE8 := block_cells (HKb.out w8 hgr8)) | (refine step_append_sl (by rfl) _ _ 30 (by rfl) W.heap.size 47 i0 (.agg #[.int .i64 0, .int .i64 0, .string ⟨#[]⟩, .int .u16 0, .int .u16 0, .int .u16 0, .int .i64 0, .int .i64 0, .int .u16 0, .int .u16 0, .int .u16 0, .int .i64 0, .int .i64 0, .bool false]) 14 88 Try.underlying30 hi hz0 hz1 hz2 rfl (by decide) _ 0 [] (by rfl) HOc.out _ _ l.es.length (entRow l.es) (by rfl) HSc.out HL.out H63.out HBY.out HZc.out ?_; intro v8 w8 hown8 hgr8; have HP8 := Lib.hid (HPc.out.grown hgr8 (fun k hk => (own_geL HOc.out k hk).1)); have HT8 := HTc.out w8 hgr8; have kE8 := block_cells (HKc.out w8 hgr8)) | (refine step_append_sl (by rfl) _ _ 30 (by rfl) W.heap.size 47 i0 (.agg #[.int .i64 0, .int .i64 0, .string ⟨#[]⟩, .int .u16 0, .int .u16 0, .int .u16 0, .int .i64 0, .int .i64 0, .int .u16 0, .int .u16 0, .int .u16 0, .int .i64 0, .int .i64 0, .bool false]) 14 88 Try.underlying30 hi hz0 hz1 hz2 rfl (by decide) v8 (0 + l.es.length) ([] ++ entRow l.es) (by rfl) (own_belowL hown8 (below_new w8 _ rfl) (Nat.le_refl _)) _ _ 1 (entRow [e]) (by rfl) (EnSl.one (heap_last w8 _)) HL1.out H63b.out HBYb.out (by have := HP8.out.s; simp; omega) ?_; intro v11 w11 hown11 hgr11; rw [HR2.out, ← HL2.out] at hown11; obtain ⟨q11, c11, rfl⟩ := own_slice hown11; have HP11 := Lib.hid ((HP8.out.alloc (.cells #[.int .i64 e.t, .int .i64 e.k, .string e.d, .int .u16 e.j.ov, .int .u16 e.j.ox, .int .u16 e.j.ol, .int .i64 e.j.oe, .int .i64 e.j.ok, .int .u16 e.j.nv, .int .u16 e.j.nx, .int .u16 e.j.nl, .int .i64 e.j.ne, .int .i64 e.j.nk, .bool e.j.two] 47)).grown hgr11 (fun k hk => (own_geL hown8 k hk).1)); have kA11 := block_cells HP11.out.a; have fA11 := block_free HP11.out.a) | (refine step_append_sl (by rfl) _ _ 30 (by rfl) W.heap.size 47 i0 (.agg #[.int .i64 0, .int .i64 0, .string ⟨#[]⟩, .int .u16 0, .int .u16 0, .int .u16 0, .int .i64 0, .int .i64 0, .int .u16 0, .int .u16 0, .int .u16 0, .int .i64 0, .int .i64 0, .bool false]) 14 88 Try.underlying30 hi hz0 hz1 hz2 rfl (by decide) v8 (0 + l.es.length) ([] ++ entRow l.es) (by rfl) hown8 _ _ 1 (entRow [e]) (by rfl) HT8 HL1.out H63b.out HBYb.out (by have := HP8.out.s; omega) ?_; intro v11 w11 hown11 hgr11; rw [HR2.out, ← HL2.out] at hown11; obtain ⟨q11, c11, rfl⟩ := own_slice hown11; have HP11 := Lib.hid (HP8.out.grown hgr11 (fun k hk => (own_geL hown8 k hk).1)); have kA11 := block_cells HP11.out.a; have fA11 := block_free HP11.out.a)))
    all_goals exact h _ _ v8 q11 c11 w11 ⟨HP11.out, hown11⟩
  intro a b v8 q11 c11 w11 hR
  obtain ⟨hp11, hown11⟩ := hR
  clear kA fA kE HPa HPb HPc HOa HOb HOc HSa HSb HSc HTa HTb HTc HKa HKb HKc
  obtain ⟨hb4, ho4⟩ := hp11.out (m := ⟨l.b, l.bt, l.j, L2⟩) (by omega) ⟨rfl, rfl, rfl⟩ hown11
  obtain ⟨W4, hW4⟩ : ∃ W4, w11.setCell ⟨A, 13, none⟩ (.slice q11 L2.length c11) = W4 := ⟨_, rfl⟩
  rw [hW4] at hb4 ho4 ⊢
  have H4 := Lib.hid (hb4.fin (by omega) ho4)
  have k4 := block_cells hb4.a
  have kZ := block_cells hb4.z
  have fZ := block_free hb4.z
  clear hb4 ho4 hW4 hown11 hp11
  go_wp2_with fail
  obtain ⟨W5, hW5⟩ : ∃ W5, put14 W4 (A + 1 + 1) (.int .i64 l.b) (.int .i64 l.bt) (.int .u16 l.j.ov) (.int .u16 l.j.ox) (.int .u16 l.j.ol) (.int .i64 l.j.oe) (.int .i64 l.j.ok) (.int .u16 l.j.nv) (.int .u16 l.j.nx) (.int .u16 l.j.nl) (.int .i64 l.j.ne) (.int .i64 l.j.nk) (.bool l.j.two) (.slice q11 L2.length c11) = W5 := ⟨_, rfl⟩
  have h4 := H4.out
  rw [hW5] at h4
  unfold put14 at hW5
  rw [hW5]
  obtain ⟨kF, hO, hBF⟩ := h4
  rw [HLP.out]
  refine bodyPost_ret (v := .agg #[.int .i64 l.b, .int .i64 l.bt, .int .u16 l.j.ov, .int .u16 l.j.ox, .int .u16 l.j.ol, .int .i64 l.j.oe, .int .i64 l.j.ok, .int .u16 l.j.nv, .int .u16 l.j.nx, .int .u16 l.j.nl, .int .i64 l.j.ne, .int .i64 l.j.nk, .bool l.j.two, .slice q11 L2.length c11]) ?_ rfl ⟨q11, c11, rfl, hO.mono (by rw [HEA.out]; omega), by rw [HEA.out]; exact hBF⟩
  simp [results, Try.results24, go_sem, kF]
end Go.Proofs.Ytabiccpodnjieaa
/- The law: begun; newer. -/
namespace Go.Proofs.Ytabiccpodnjieaa
open Go.ChangeShapes Go.WideShapes Go.ChangeAt Go.RowKit

def entT (t : Int) : Ent := ⟨t, 0, ⟨#[]⟩, jn0⟩
theorem EnSl.two {w : World} {g : Nat} {e f : Ent} {t : TypeId} (h : w.heap[g]? = some (.cells #[.int .i64 e.t, .int .i64 e.k, .string e.d, .int .u16 e.j.ov, .int .u16 e.j.ox, .int .u16 e.j.ol, .int .i64 e.j.oe, .int .i64 e.j.ok, .int .u16 e.j.nv, .int .u16 e.j.nx, .int .u16 e.j.nl, .int .i64 e.j.ne, .int .i64 e.j.nk, .bool e.j.two, .int .i64 f.t, .int .i64 f.k, .string f.d, .int .u16 f.j.ov, .int .u16 f.j.ox, .int .u16 f.j.ol, .int .i64 f.j.oe, .int .i64 f.j.ok, .int .u16 f.j.nv, .int .u16 f.j.nx, .int .u16 f.j.nl, .int .i64 f.j.ne, .int .i64 f.j.nk, .bool f.j.two] t (0, 0))) : EnSl w (.slice (some ⟨g, 0, none⟩) 2 2) [e, f] := by
  refine ⟨rfl, .inr ⟨⟨g, 0, none⟩, 2, rfl, Nat.le_refl _, by unfold maxLen; omega, fun _ => ⟨g, 0, rfl, block_lt h, fun j hj => ?_⟩⟩⟩
  rw [Nat.zero_add, block_cells h j]
  simp [entRow, entC]
def l0B : Lg := ⟨0, 0, jn0, []⟩
def lmB : Lg := ⟨0, 0, jn0, [entT 1, entT 2]⟩
def cmB : Lg := ⟨1, 1, jn0, [entT 2]⟩
theorem merge_B : mergeL l0B 0 0 [entT 1, entT 2] = (lmB, 2, true) := by decide +kernel
theorem compact_B : compactL lmB 1 = (cmB, 0) := by decide +kernel
theorem newer_B : newerL lmB 1 3 = true := by decide +kernel
set_option maxRecDepth 100000 in
set_option maxHeartbeats 4000000 in
theorem begun_any (w : World) : Calls Try.prog 9 #[] w fun r w' => r = .returned (.bool true) ∧ Below w.heap.size w w' := by
  obtain ⟨lm, hlm⟩ : ∃ lm, lmB = lm := ⟨_, rfl⟩
  obtain ⟨cm, hcm⟩ : ∃ cm, cmB = cm := ⟨_, rfl⟩
  have hmg := merge_B; have hcp := compact_B; have hnw := newer_B
  have hf0 : LgFit l0B := ⟨by decide, by decide, by decide⟩
  have hfm : LgFit lm := by rw [← hlm]; exact ⟨by decide, by decide, by decide⟩
  have hl2 : lm.last = 2 := by rw [← hlm]; decide
  have hc1 : cm.b = 1 := by rw [← hcm]; rfl
  have hc2 : cm.bt = 1 := by rw [← hcm]; rfl
  have hc3 : cm.es.length = 1 := by rw [← hcm]; rfl
  rw [hlm] at hmg hcp hnw
  rw [hcm] at hcp
  have HFM := Lib.hid hfm; have HL2' := Lib.hid hl2; have HCP := Lib.hid hcp; have HNW := Lib.hid hnw; have HMG := Lib.hid hmg
  have HC1 := Lib.hid hc1; have HC2 := Lib.hid hc2; have HC3 := Lib.hid hc3
  clear hlm hcm hmg hcp hnw hfm hl2 hc1 hc2 hc3
  go_enter Try.func9, Try.ntmps9
  go_wp2_with fail
  have hM := merge_any l0B none 0 0 0 [entT 1, entT 2] (some ⟨w.heap.size, 0, none⟩) 2 (w.alloc (.cells #[.int .i64 1, .int .i64 0, .string ⟨#[]⟩, .int .u16 0, .int .u16 0, .int .u16 0, .int .i64 0, .int .i64 0, .int .u16 0, .int .u16 0, .int .u16 0, .int .i64 0, .int .i64 0, .bool false, .int .i64 2, .int .i64 0, .string ⟨#[]⟩, .int .u16 0, .int .u16 0, .int .u16 0, .int .i64 0, .int .i64 0, .int .u16 0, .int .u16 0, .int .u16 0, .int .i64 0, .int .i64 0, .bool false] 47)) hf0 ⟨by decide, by decide⟩ (EnSl.nil _) (EnSl.two (e := entT 1) (f := entT 2) (heap_last w _)) (by decide)
  rw [HMG.out] at hM
  refine hM.mono ?_
  rintro r w1 ⟨p1, c1, rfl, ho1, hb1⟩
  have HB1 : Hid (Below w.heap.size w w1) := ((Below.refl _ _).alloc (Nat.le_refl _) _).trans (hb1.mono (by simp))
  have HE1 : Hid (EnSl w1 (.slice p1 lm.es.length c1) lm.es) := EnSl.of_own ho1
  dsimp only at *
  clear hM ho1 hb1
  go_upto_region 2 with fail
  obtain ⟨W2, hW2⟩ : ∃ W2, w1.alloc (.cells #[.int .i64 lm.b, .int .i64 lm.bt, .int .u16 lm.j.ov, .int .u16 lm.j.ox, .int .u16 lm.j.ol, .int .i64 lm.j.oe, .int .i64 lm.j.ok, .int .u16 lm.j.nv, .int .u16 lm.j.nx, .int .u16 lm.j.nl, .int .i64 lm.j.ne, .int .i64 lm.j.nk, .bool lm.j.two, .slice p1 lm.es.length c1] 32) = W2 := ⟨_, rfl⟩
  obtain ⟨A1, hA1⟩ : ∃ A1, w1.heap.size = A1 := ⟨_, rfl⟩
  have HL2 : Hid (W2.heap[A1]? = some (.cells #[.int .i64 lm.b, .int .i64 lm.bt, .int .u16 lm.j.ov, .int .u16 lm.j.ox, .int .u16 lm.j.ol, .int .i64 lm.j.oe, .int .i64 lm.j.ok, .int .u16 lm.j.nv, .int .u16 lm.j.nx, .int .u16 lm.j.nl, .int .i64 lm.j.ne, .int .i64 lm.j.nk, .bool lm.j.two, .slice p1 lm.es.length c1] 32 (0, 0))) := by show _ = _; rw [← hW2, ← hA1]; exact heap_last w1 _
  have hb12 : Below w1.heap.size w1 W2 := by rw [← hW2]; exact (Below.refl _ _).alloc (Nat.le_refl _) _
  have HB2 : Hid (Below w.heap.size w W2) := HB1.out.trans (hb12.mono HB1.out.size)
  have HE2 : Hid (EnSl W2 (.slice p1 lm.es.length c1) lm.es) := HE1.out.keep hb12 (Nat.le_refl _)
  rw [hW2, hA1]
  clear hW2 hA1 hb12
  have k2 := block_cells HL2.out
  have hC := compact_any lm p1 c1 1 W2 HFM.out ⟨by decide, by decide⟩ HE2.out
  rw [HCP.out] at hC
  have HC := Lib.hid hC
  clear hC
  go_wp2_with fail
  refine HC.out.mono ?_
  rintro r w3 ⟨p3, c3, rfl, -, hb3⟩
  dsimp only at *
  have HL3 := Lib.hid (below_block hb3 (block_lt HL2.out) HL2.out)
  have HB3 : Hid (Below w.heap.size w w3) := HB2.out.trans (hb3.mono HB2.out.size)
  have HE3 : Hid (EnSl w3 (.slice p1 lm.es.length c1) lm.es) := HE2.out.keep hb3 (Nat.le_refl _)
  clear hb3 k2
  go_upto_region 3 with fail
  obtain ⟨W4, hW4⟩ : ∃ W4, w3.alloc (.cells #[.int .i64 cm.b, .int .i64 cm.bt, .int .u16 cm.j.ov, .int .u16 cm.j.ox, .int .u16 cm.j.ol, .int .i64 cm.j.oe, .int .i64 cm.j.ok, .int .u16 cm.j.nv, .int .u16 cm.j.nx, .int .u16 cm.j.nl, .int .i64 cm.j.ne, .int .i64 cm.j.nk, .bool cm.j.two, .slice p3 cm.es.length c3] 32) = W4 := ⟨_, rfl⟩
  obtain ⟨A3, hA3⟩ : ∃ A3, w3.heap.size = A3 := ⟨_, rfl⟩
  have HL4 : Hid (W4.heap[A3]? = some (.cells #[.int .i64 cm.b, .int .i64 cm.bt, .int .u16 cm.j.ov, .int .u16 cm.j.ox, .int .u16 cm.j.ol, .int .i64 cm.j.oe, .int .i64 cm.j.ok, .int .u16 cm.j.nv, .int .u16 cm.j.nx, .int .u16 cm.j.nl, .int .i64 cm.j.ne, .int .i64 cm.j.nk, .bool cm.j.two, .slice p3 cm.es.length c3] 32 (0, 0))) := by show _ = _; rw [← hW4, ← hA3]; exact heap_last w3 _
  have hb34 : Below w3.heap.size w3 W4 := by rw [← hW4]; exact (Below.refl _ _).alloc (Nat.le_refl _) _
  have HM4 := Lib.hid (below_block hb34 (block_lt HL3.out) HL3.out)
  have HB4 : Hid (Below w.heap.size w W4) := HB3.out.trans (hb34.mono HB3.out.size)
  have HE4 : Hid (EnSl W4 (.slice p1 lm.es.length c1) lm.es) := HE3.out.keep hb34 (Nat.le_refl _)
  rw [hW4, hA3]
  clear hW4 hA3 hb34
  have hc1 := HC1.out; have hc2 := HC2.out; have hc3 := HC3.out
  have kM4 := block_cells HM4.out
  have kL4 := block_cells HL4.out
  have hLA := last_any lm p1 c1 W4 HFM.out.b0 HFM.out.b1 HFM.out.n
  rw [HL2'.out] at hLA
  have HLA := Lib.hid hLA
  clear hLA
  go_wp2_with fail
  refine HLA.out.mono ?_
  rintro r w5 ⟨rfl, hb5⟩
  have HL5 := Lib.hid (below_block hb5 (block_lt HL4.out) HL4.out)
  have HM5 := Lib.hid (below_block hb5 (block_lt HM4.out) HM4.out)
  have HB5 : Hid (Below w.heap.size w w5) := HB4.out.trans (hb5.mono HB4.out.size)
  have hN := newer_any lm p1 c1 1 3 w5 HFM.out (HE4.out.keep hb5 (Nat.le_refl _))
  rw [HNW.out] at hN
  have HN := Lib.hid hN
  clear hN hb5 kM4 kL4
  have kM5 := block_cells HM5.out
  have kL5 := block_cells HL5.out
  go_wp2_with fail
  refine HN.out.mono ?_
  rintro r w6 ⟨rfl, hb6⟩
  have HB6 : Hid (Below w.heap.size w w6) := HB5.out.trans (hb6.mono HB5.out.size)
  clear hb6
  go_wp2_with fail
  go_ret
  exact ⟨rfl, HB6.out⟩
set_option maxRecDepth 100000 in
set_option maxHeartbeats 4000000 in
theorem newer12_any (x y : Lg) (px py : Option Addr) (cx cy : Nat) (w : World) (hx : LgFit x) (hy : LgFit y) (ex : EnSl w (.slice px x.es.length cx) x.es) (ey : EnSl w (.slice py y.es.length cy) y.es) :
    Calls Try.prog 17 #[.agg #[.int .i64 x.b, .int .i64 x.bt, .int .u16 x.j.ov, .int .u16 x.j.ox, .int .u16 x.j.ol, .int .i64 x.j.oe, .int .i64 x.j.ok, .int .u16 x.j.nv, .int .u16 x.j.nx, .int .u16 x.j.nl, .int .i64 x.j.ne, .int .i64 x.j.nk, .bool x.j.two, .slice px x.es.length cx], .agg #[.int .i64 y.b, .int .i64 y.bt, .int .u16 y.j.ov, .int .u16 y.j.ox, .int .u16 y.j.ol, .int .i64 y.j.oe, .int .i64 y.j.ok, .int .u16 y.j.nv, .int .u16 y.j.nx, .int .u16 y.j.nl, .int .i64 y.j.ne, .int .i64 y.j.nk, .bool y.j.two, .slice py y.es.length cy]] w fun r w' => r = .returned (.bool (newerL y x.last (lastTerm x))) ∧ Below w.heap.size w w' := by
  have HX : Hid (LgFit x) := hx
  have HY : Hid (LgFit y) := hy
  have HEX := Lib.hid ex
  have HEY := Lib.hid ey
  have hA := heap_prev (.cells #[.int .i64 y.b, .int .i64 y.bt, .int .u16 y.j.ov, .int .u16 y.j.ox, .int .u16 y.j.ol, .int .i64 y.j.oe, .int .i64 y.j.ok, .int .u16 y.j.nv, .int .u16 y.j.nx, .int .u16 y.j.nl, .int .i64 y.j.ne, .int .i64 y.j.nk, .bool y.j.two, .slice py y.es.length cy] 32) (heap_last w (.cells #[.int .i64 x.b, .int .i64 x.bt, .int .u16 x.j.ov, .int .u16 x.j.ox, .int .u16 x.j.ol, .int .i64 x.j.oe, .int .i64 x.j.ok, .int .u16 x.j.nv, .int .u16 x.j.nx, .int .u16 x.j.nl, .int .i64 x.j.ne, .int .i64 x.j.nk, .bool x.j.two, .slice px x.es.length cx] 32))
  have hC : ((w.alloc (.cells #[.int .i64 x.b, .int .i64 x.bt, .int .u16 x.j.ov, .int .u16 x.j.ox, .int .u16 x.j.ol, .int .i64 x.j.oe, .int .i64 x.j.ok, .int .u16 x.j.nv, .int .u16 x.j.nx, .int .u16 x.j.nl, .int .i64 x.j.ne, .int .i64 x.j.nk, .bool x.j.two, .slice px x.es.length cx] 32)).alloc (.cells #[.int .i64 y.b, .int .i64 y.bt, .int .u16 y.j.ov, .int .u16 y.j.ox, .int .u16 y.j.ol, .int .i64 y.j.oe, .int .i64 y.j.ok, .int .u16 y.j.nv, .int .u16 y.j.nx, .int .u16 y.j.nl, .int .i64 y.j.ne, .int .i64 y.j.nk, .bool y.j.two, .slice py y.es.length cy] 32)).heap[w.heap.size + 1]? = some (.cells #[.int .i64 y.b, .int .i64 y.bt, .int .u16 y.j.ov, .int .u16 y.j.ox, .int .u16 y.j.ol, .int .i64 y.j.oe, .int .i64 y.j.ok, .int .u16 y.j.nv, .int .u16 y.j.nx, .int .u16 y.j.nl, .int .i64 y.j.ne, .int .i64 y.j.nk, .bool y.j.two, .slice py y.es.length cy] 32 (0, 0)) := heap_atL (by simp)
  have hB : Below w.heap.size w ((w.alloc (.cells #[.int .i64 x.b, .int .i64 x.bt, .int .u16 x.j.ov, .int .u16 x.j.ox, .int .u16 x.j.ol, .int .i64 x.j.oe, .int .i64 x.j.ok, .int .u16 x.j.nv, .int .u16 x.j.nx, .int .u16 x.j.nl, .int .i64 x.j.ne, .int .i64 x.j.nk, .bool x.j.two, .slice px x.es.length cx] 32)).alloc (.cells #[.int .i64 y.b, .int .i64 y.bt, .int .u16 y.j.ov, .int .u16 y.j.ox, .int .u16 y.j.ol, .int .i64 y.j.oe, .int .i64 y.j.ok, .int .u16 y.j.nv, .int .u16 y.j.nx, .int .u16 y.j.nl, .int .i64 y.j.ne, .int .i64 y.j.nk, .bool y.j.two, .slice py y.es.length cy] 32)) := ((Below.refl _ w).alloc (Nat.le_refl _) _).alloc (by simp) _
  have HW := Lib.hid (And.intro hA (And.intro hC hB))
  clear hA hC hB hx hy ex ey
  obtain ⟨X, hX⟩ : ∃ X, x.last = X := ⟨_, rfl⟩
  obtain ⟨T, hT⟩ : ∃ T, termL x X = T := ⟨_, rfl⟩
  have hlt : lastTerm x = T.1 := by unfold lastTerm; rw [hX, hT]
  have HLX := Lib.hid hX; have HTX := Lib.hid hT
  rw [hlt, hX]
  have HXb : Hid (-9223372036854775808 ≤ X ∧ X ≤ 9223372036854775807) := by show _ ∧ _; rw [← hX]; exact HX.out.last0
  clear hX hT hlt
  go_enter Try.func17, Try.ntmps17
  go_upto_region 1 with fail
  obtain ⟨W, hW⟩ : ∃ W, (w.alloc (.cells #[.int .i64 x.b, .int .i64 x.bt, .int .u16 x.j.ov, .int .u16 x.j.ox, .int .u16 x.j.ol, .int .i64 x.j.oe, .int .i64 x.j.ok, .int .u16 x.j.nv, .int .u16 x.j.nx, .int .u16 x.j.nl, .int .i64 x.j.ne, .int .i64 x.j.nk, .bool x.j.two, .slice px x.es.length cx] 32)).alloc (.cells #[.int .i64 y.b, .int .i64 y.bt, .int .u16 y.j.ov, .int .u16 y.j.ox, .int .u16 y.j.ol, .int .i64 y.j.oe, .int .i64 y.j.ok, .int .u16 y.j.nv, .int .u16 y.j.nx, .int .u16 y.j.nl, .int .i64 y.j.ne, .int .i64 y.j.nk, .bool y.j.two, .slice py y.es.length cy] 32) = W := ⟨_, rfl⟩
  rw [hW] at HW ⊢
  clear hW
  obtain ⟨U, f, hU, hf, hg⟩ := calm_class (W); obtain ⟨u0, hu0⟩ := hg _ (Below.refl _ _); rw [hu0]; clear hu0
  have kA := fun u => block_cells (calm_heap hf HW.out.1 u)
  have kC := fun u => block_cells (calm_heap hf HW.out.2.1 u)
  have HBu : Hid (∀ u, Below w.heap.size w (f u)) := fun u => HW.out.2.2.trans ((hf u).mono HW.out.2.2.size)
  have LA : Hid (∀ u, Calls Try.prog 12 #[.agg #[.int .i64 x.b, .int .i64 x.bt, .int .u16 x.j.ov, .int .u16 x.j.ox, .int .u16 x.j.ol, .int .i64 x.j.oe, .int .i64 x.j.ok, .int .u16 x.j.nv, .int .u16 x.j.nx, .int .u16 x.j.nl, .int .i64 x.j.ne, .int .i64 x.j.nk, .bool x.j.two, .slice px x.es.length cx]] (f u) fun r w' => r = .returned (.int .i64 X) ∧ Below (f u).heap.size (f u) w') := fun u => by
    have := last_any x px cx (f u) HX.out.b0 HX.out.b1 HX.out.n; rw [HLX.out] at this; exact this
  have TA : Hid (∀ u, Calls Try.prog 14 #[.agg #[.int .i64 x.b, .int .i64 x.bt, .int .u16 x.j.ov, .int .u16 x.j.ox, .int .u16 x.j.ol, .int .i64 x.j.oe, .int .i64 x.j.ok, .int .u16 x.j.nv, .int .u16 x.j.nx, .int .u16 x.j.nl, .int .i64 x.j.ne, .int .i64 x.j.nk, .bool x.j.two, .slice px x.es.length cx], .int .i64 X] (f u) fun r w' => r = .returned (.tuple #[.int .i64 T.1, .bool T.2]) ∧ Below (f u).heap.size (f u) w') := fun u => by
    have := term_is x px cx (f u) HX.out HXb.out (HEX.out.keep (HBu.out u) (Nat.le_refl _)); rw [HTX.out] at this; exact this
  have NA : Hid (∀ u, Calls Try.prog 36 #[.agg #[.int .i64 y.b, .int .i64 y.bt, .int .u16 y.j.ov, .int .u16 y.j.ox, .int .u16 y.j.ol, .int .i64 y.j.oe, .int .i64 y.j.ok, .int .u16 y.j.nv, .int .u16 y.j.nx, .int .u16 y.j.nl, .int .i64 y.j.ne, .int .i64 y.j.nk, .bool y.j.two, .slice py y.es.length cy], .int .i64 X, .int .i64 T.1] (f u) fun r w' => r = .returned (.bool (newerL y X T.1)) ∧ Below (f u).heap.size (f u) w') := fun u => newer_any y py cy X T.1 (f u) HY.out (HEY.out.keep (HBu.out u) (Nat.le_refl _))
  refine wp_region_calm f (by kernel_rfl) (by kernel_rfl) (calm_drew hf hg _) ?_
  repeat (go_big_quiet_step ((first | (go_at_call 12; with_reducible exact calm_of hf hg (LA.out _)) | (go_at_call 14; with_reducible exact calm_of hf hg (TA.out _)))))
  refine wpQuiet_nil ?_; rintro _ ⟨u, rfl⟩
  go_upto_region 2 with fail
  refine wp_region_calm f (by kernel_rfl) (by kernel_rfl) (calm_drew hf hg _) ?_
  repeat (go_big_quiet_step ((first | (go_at_call 12; with_reducible exact calm_of hf hg (LA.out _)) | (go_at_call 36; with_reducible exact calm_of hf hg (NA.out _)))))
  refine wpQuiet_nil ?_; rintro _ ⟨u, rfl⟩
  go_wp2_with fail
  go_ret
  exact ⟨rfl, HBu.out _⟩
end Go.Proofs.Ytabiccpodnjieaa
