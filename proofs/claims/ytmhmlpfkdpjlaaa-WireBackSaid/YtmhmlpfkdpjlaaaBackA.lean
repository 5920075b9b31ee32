import Derived.Test.YtmhmlpfkdpjlaaaWireL
import Derived.Test.YtmhmlpfkdpjlaaaWireF
import Derived.Test.YtmhmlpfkdpjlaaaWireK
import Derived.Test.YtmhmlpfkdpjlaaaGwJ
import Derived.Test.YtmhmlpfkdpjlaaaRdH
import Derived.Test.YtmhmlpfkdpjlaaaWireX
/- Wire: a command that is not too great has not too many bytes. -/
namespace Go.Proofs.Ytmhmlpfkdpjlaaa
open Go.ChangeShapes Go.WideShapes Go.ChangeAt Go.RowKit

theorem encT_le {s : ByteArray} (h : TxF s) : (encT s).length ≤ s.size + 10 := by
  unfold encT TxF at *
  have := (varN_len 10 s.size (by have : 128 ^ 10 = 1180591620717411303424 := (by decide); omega) (by omega)).2
  rw [List.length_append, txW_len]; omega
theorem encSps_le : ∀ {l : List SpX}, (∀ x ∈ l, SpF x) → (l.flatMap encSp).length ≤ szSp l + 20 * l.length
  | [], _ => by simp [szSp]
  | a :: l, h => by
    have h1 := h a (by simp)
    have i1 := encT_le h1.1; have i2 := encT_le h1.2
    have h2 := encSps_le (l := l) (fun x hx => h x (by simp [hx]))
    rw [List.flatMap_cons, List.length_append, List.length_cons]
    unfold encSp szSp at *
    rw [List.length_append, List.map_cons, List.sum_cons]; omega
theorem encWrs_le : ∀ {l : List WrX}, (∀ x ∈ l, WrF x) → (l.flatMap encWr).length ≤ szWr l + 21 * l.length
  | [], _ => by simp [szWr]
  | a :: l, h => by
    have h1 := h a (by simp)
    have i1 := encT_le h1.1; have i2 := encT_le h1.2
    have h2 := encWrs_le (l := l) (fun x hx => h x (by simp [hx]))
    rw [List.flatMap_cons, List.length_append, List.length_cons]
    have i3 : (encF a.r).length = 1 := rfl
    unfold encWr szWr at *
    rw [List.length_append, List.length_append, List.map_cons, List.sum_cons]; omega
theorem ltc_cml {c : CmX} (F : CmF c) (h : LtC c) : CmL c := by
  obtain ⟨h1, h2, h3⟩ := h
  have i1 := encHd_len F
  have i2 := encSps_le F.sp
  have i3 := encWrs_le F.wr
  have i4 := (encN_len (x := (c.sp.length : Int)) ⟨by omega, by omega⟩).2
  have i5 := (encN_len (x := (c.wr.length : Int)) ⟨by omega, by omega⟩).2
  refine ⟨F, ?_, by omega, by omega⟩
  unfold encCm encSps encWrs
  simp only [List.length_append]
  omega
end Go.Proofs.Ytmhmlpfkdpjlaaa
/- Wire: a state that is not too great has not too many bytes. -/
namespace Go.Proofs.Ytmhmlpfkdpjlaaa
open Go.ChangeShapes Go.WideShapes Go.ChangeAt Go.RowKit

theorem flat_bound {α : Type} {f : α → List Int} {b : Nat} : ∀ {l : List α}, (∀ a ∈ l, (f a).length ≤ b) → (l.flatMap f).length ≤ l.length * b
  | [], _ => by simp
  | a :: l, h => by
    have h1 := h a (by simp)
    have h2 := flat_bound (l := l) (fun x hx => h x (by simp [hx]))
    rw [List.flatMap_cons, List.length_append, List.length_cons, Nat.add_mul]; omega
theorem encVe_le {x : VeX} (h : VeF x) (hd : x.d.size ≤ 300) : (encVe x).length ≤ 327 := by
  have := encT_le h.d; rw [encVe_len]; omega
theorem encOu_le {x : OuX} (h : OuF x) : (encOu x).length ≤ 57 := by
  have := encY_len h.yn h.yl h.ys h.ya
  unfold encOu; rw [List.length_append, List.length_append, stampB_len, encF_len]; omega
theorem encCe_le {x : CeX} (h : CeF x) (hl : LcX x) : (encCe x).length ≤ 10500 := by
  have i1 := encT_le h.k; have i2 := encT_le h.ld
  have i3 := encY_len h.yn h.yl h.ys h.ya
  have i4 := (encN_len h.hm).2
  have i5 := (encN_len (x := (x.vs.length : Int)) ⟨by omega, by have := hl.n; omega⟩).2
  have i6 : (x.vs.flatMap encVe).length ≤ x.vs.length * 327 := flat_bound fun v hv => by
    obtain ⟨i, hi, rfl⟩ := List.mem_iff_getElem.1 hv
    exact encVe_le (h.vs _ (List.getElem_mem hi)) (hl.d i hi)
  have i7 := hl.n; have i8 := hl.k; have i9 := hl.l
  have i10 : (encLk x).length ≤ 380 := by
    cases hb : x.lk
    · rw [encLk_no hb, encF_len]; omega
    · rw [encLk_yes hb]; simp only [List.length_append, stampB_len, encF_len]; omega
  rw [encCe_len]; omega
theorem encOus_le {l : List OuX} (h : ∀ x ∈ l, OuF x) (hn : l.length < 100) : (encOus l).length ≤ 5800 := by
  have i5 := (encN_len (x := (l.length : Int)) ⟨by omega, by omega⟩).2
  have i6 : (l.flatMap encOu).length ≤ l.length * 57 := flat_bound fun v hv => encOu_le (h v hv)
  unfold encOus; rw [List.length_append]; omega
theorem encPa_le {P : PaL} (h : PaF P) (hl : L8 P.cs) (hr : P.rs.length < 100) (hd : P.ds.length < 100) : ((encPa P.x).length : Int) ≤ 1000000 := by
  have i1 := encPaH_len h
  have i2 : (P.cs.flatMap encCL).length ≤ P.cs.length * 10500 := flat_bound fun c hc => by
    obtain ⟨i, hi, rfl⟩ := List.mem_iff_getElem.1 hc
    exact encCe_le (h.cs _ (List.getElem_mem hi)) (hl.2 i hi)
  have i3 := encOus_le h.rs hr; have i4 := encOus_le h.ds hd
  have i5 := hl.1
  rw [encPaL]; simp only [List.length_append]; omega
theorem l8_lens {L : List CeL} (h : L8 L) : L.length ≤ 1000000 ∧ ∀ x ∈ L, x.1.vs.length ≤ 1000000 := by
  refine ⟨by have := h.1; omega, fun x hx => ?_⟩
  obtain ⟨j, hj, rfl⟩ := List.mem_iff_getElem.1 hx
  have := (h.2 j hj).n; omega
end Go.Proofs.Ytmhmlpfkdpjlaaa
/- Wire: what WireBack needs beside: places, locks that are zero, no bytes the beginning of other ones. -/
namespace Go.Proofs.Ytmhmlpfkdpjlaaa
open Go.ChangeShapes Go.WideShapes Go.ChangeAt Go.RowKit

theorem RdOk.cut {α : Type} {f : List Int → Bool → α × List Int × Bool} {e : α → List Int} {k : α → Prop} (hf : RdOk f e k) {a b : α} {x y : List Int} (ha : k a) (hb : k b) (h : e a ++ x = e b ++ y) : a = b ∧ x = y := by
  have h1 := hf.compl a x ha
  rw [h, hf.compl b y hb] at h1
  simp only [Prod.mk.injEq, and_true] at h1
  exact ⟨h1.1.symm, h1.2.symm⟩
theorem szSp_ge : ∀ {l : List SpX} {s : SpX}, s ∈ l → s.lo.size + s.hi.size ≤ szSp l
  | a :: l, s, h => by
    have e : szSp (a :: l) = a.lo.size + a.hi.size + szSp l := by unfold szSp; rw [List.map_cons, List.sum_cons]
    rcases List.mem_cons.1 h with rfl | h
    · omega
    · have := szSp_ge h; omega
theorem szWr_ge : ∀ {l : List WrX} {s : WrX}, s ∈ l → s.k.size + s.d.size ≤ szWr l
  | a :: l, s, h => by
    have e : szWr (a :: l) = a.k.size + a.d.size + szWr l := by unfold szWr; rw [List.map_cons, List.sum_cons]
    rcases List.mem_cons.1 h with rfl | h
    · omega
    · have := szWr_ge h; omega
theorem ltc_cmv {c : CmX} (F : CmF c) (h : LtC c) : CmV c := by
  obtain ⟨h1, h2, h3⟩ := h
  refine ⟨F.k, F.e, F.n, F.h, ⟨F.yn, F.yl, F.ys, F.ya⟩, ⟨F.sw, F.st⟩, F.w, trivial, ⟨by omega, fun s hs => ?_⟩, ⟨by omega, fun s hs => ?_⟩⟩
  · have := szSp_ge hs; exact ⟨by show _ ≤ _; omega, by show _ ≤ _; omega⟩
  · have := szWr_ge hs; exact ⟨by show _ ≤ _; omega, trivial, by show _ ≤ _; omega⟩
/-- Without a lock, the lock is zero. -/
def LkZ (x : CeX) : Prop := x.lk = false → x = ⟨x.k, x.vs, false, 0, 0, 0, 0, 0, 0, 0, false, ⟨#[]⟩⟩
theorem l8_pav {P : PaL} (F : PaF P) (h : L8 P.cs) (hr : P.rs.length < 100) (hd : P.ds.length < 100) (hz : ∀ j, (hj : j < P.cs.length) → LkZ P.cs[j].1) : PaV P.x := by
  have ou : ∀ {x : OuX}, OuF x → OuV x := fun h => ⟨⟨h.yn, h.yl, h.ys, h.ya⟩, ⟨h.sw, h.st⟩, trivial⟩
  refine ⟨F.e, F.h, ⟨F.fw, F.ft⟩, F.cl, F.lo, ⟨?_, ?_⟩, ⟨?_, fun x hx => ou (F.rs x hx)⟩, ⟨?_, fun x hx => ou (F.ds x hx)⟩⟩
  · show (P.cs.map (·.1)).length ≤ _; rw [List.length_map]; have := h.1; omega
  · intro c hc
    obtain ⟨x, hx, rfl⟩ := List.mem_map.1 hc
    obtain ⟨j, hj, rfl⟩ := List.mem_iff_getElem.1 hx
    have hl := h.2 j hj
    have hf := F.cs _ (List.getElem_mem hj)
    refine ⟨by show _ ≤ _; have := hl.k; omega, by have := hl.n; omega, fun v hv => ?_, fun _ => ⟨⟨hf.yn, hf.yl, hf.ys, hf.ya⟩, hf.hm, ⟨hf.sw, hf.st⟩, trivial, by show _ ≤ _; have := hl.l; omega⟩, hz j hj⟩
    obtain ⟨i, hi, rfl⟩ := List.mem_iff_getElem.1 hv
    have hvf := hf.vs _ (List.getElem_mem hi)
    exact ⟨⟨hvf.w, hvf.t⟩, trivial, by show _ ≤ _; have := hl.d i hi; omega⟩
  · show P.rs.length ≤ _; omega
  · show P.ds.length ≤ _; omega
theorem encCm_rd {c d : CmX} {x y : List Int} (hc : CmV c) (hd : CmV d) (h : encCm c ++ x = encCm d ++ y) : c = d ∧ x = y := by
  rw [encCm_body, encCm_body, List.cons_append, List.cons_append] at h
  exact rdCm_ok.cut hc hd (List.cons.inj h).2
theorem encPa_rd {c d : PaX} {x y : List Int} (hc : PaV c) (hd : PaV d) (h : encPa c ++ x = encPa d ++ y) : c = d ∧ x = y := by
  rw [encPa_body, encPa_body, List.cons_append, List.cons_append] at h
  exact rdPa_ok.cut hc hd (List.cons.inj h).2
/-- One byte more is none; a piece is none. -/
theorem cm_more {c : CmX} (hc : CmV c) (m : Int) : ∀ d, CmV d → encCm d ≠ encCm c ++ [m] := fun d hd e => by
  have := (encCm_rd (x := []) (y := [m]) hd hc (by rw [List.append_nil]; exact e)).2
  cases this
theorem cm_less {c : CmX} (hc : CmV c) {k : Nat} (hk : k < (encCm c).length) : ∀ d, CmV d → encCm d ≠ (encCm c).take k := fun d hd e => by
  have h : encCm d ++ (encCm c).drop k = encCm c ++ [] := by rw [e, List.take_append_drop, List.append_nil]
  have := congrArg List.length (encCm_rd hd hc h).2
  rw [List.length_drop] at this; simp at this; omega
theorem pa_less {c : PaX} (hc : PaV c) {k : Nat} (hk : k < (encPa c).length) : ∀ d, PaV d → encPa d ≠ (encPa c).take k := fun d hd e => by
  have h : encPa d ++ (encPa c).drop k = encPa c ++ [] := by rw [e, List.take_append_drop, List.append_nil]
  have := congrArg List.length (encPa_rd hd hc h).2
  rw [List.length_drop] at this; simp at this; omega
theorem jo_less {c : JoX} (hc : JoF c) {k : Nat} (hk : k < (encJo c).length) : ∀ d ys, JoF d → encJo d ++ ys ≠ (encJo c).take k := fun d ys hd e => by
  have h : encJo d ++ (ys ++ (encJo c).drop k) = encJo c ++ [] := by rw [← List.append_assoc, e, List.take_append_drop, List.append_nil]
  have := congrArg List.length (rdJo_ok.cut hd hc h).2
  rw [List.length_append, List.length_drop] at this; simp at this; omega
set_option maxHeartbeats 1000000 in
theorem place_any (k n : Int) (w : World) (hk : In64 k) (hn : 1 ≤ n) (hm : n ≤ 140737488300000) :
    Calls Try.prog 30 #[.int .i64 k, .int .i64 n] w fun e w' => (∃ r : Nat, e = .returned (.int .i64 r) ∧ (r : Int) < n) ∧ w = w' := by
  obtain ⟨k0, k1⟩ := hk
  have h1 := Int.tmod_lt_of_pos k (show 0 < n by omega)
  have h2 : -n < Int.tmod k n := by
    rcases Int.le_total 0 k with h | h
    · have := Int.tmod_nonneg n h; omega
    · have h3 := Int.tmod_lt_of_pos (-k) (show 0 < n by omega)
      rw [Int.neg_tmod] at h3; omega
  obtain ⟨r, hr⟩ : ∃ r, Int.tmod k n = r := ⟨_, rfl⟩
  have hd0 : decide (n < 1) = false := by simp; omega
  have hn0 : n ≠ 0 := by omega
  have hw : wrap64 (Int.tmod k n + n) = Int.tmod k n + n := by unfold wrap64; omega
  have HR := Lib.hid hr
  rw [hr] at h1 h2
  clear hr
  go_enter Try.func30, Try.ntmps30
  go_wp2_with fail
  · go_ret
    refine ⟨⟨(Int.tmod k n + n).toNat, ?_, ?_⟩, rfl⟩
    · have hh := HR.out
      have e : (((Int.tmod k n + n).toNat : Nat) : Int) = Int.tmod k n + n := Int.toNat_of_nonneg (by omega)
      rw [e]; simp [hw]
    · have hh := HR.out
      omega
  · go_ret
    refine ⟨⟨(Int.tmod k n).toNat, ?_, ?_⟩, rfl⟩
    · have hh := HR.out
      have e : (((Int.tmod k n).toNat : Nat) : Int) = Int.tmod k n := Int.toNat_of_nonneg (by omega)
      rw [e]; first | rfl | (congr 2; try rw [hw])
    · have hh := HR.out
      omega
set_option maxRecDepth 100000 in
set_option maxHeartbeats 8000000 in
theorem lockable_any (ae ah afw aft acl alo : Int) (L : List CeL) (R D : List OuX) (p q s : Option Addr) (c d t : Nat) (w : World) (hn : L.length ≤ 1000000) (h : CesAt w p L) :
    Calls Try.prog 29 #[.agg #[.int .i64 ae, .int .i64 ah, .int .i64 afw, .int .i64 aft, .int .i64 acl, .int .i64 alo, .slice p L.length c, .slice q R.length d, .slice s D.length t]] w fun e w' => (∃ b, e = .returned (.bool b) ∧ (b = true → ∀ j, (hj : j < L.length) → LkZ L[j].1)) ∧ Below w.heap.size w w' := by
  have hW0 : Below w.heap.size w (w.alloc (.cells #[.int .i64 ae, .int .i64 ah, .int .i64 afw, .int .i64 aft, .int .i64 acl, .int .i64 alo, .slice p L.length c, .slice q R.length d, .slice s D.length t] 33)) := (Below.refl _ _).alloc (Nat.le_refl _) _
  obtain ⟨W, hW⟩ : ∃ W, w.alloc (.cells #[.int .i64 ae, .int .i64 ah, .int .i64 afw, .int .i64 aft, .int .i64 acl, .int .i64 alo, .slice p L.length c, .slice q R.length d, .slice s D.length t] 33) = W := ⟨_, rfl⟩
  have hA := heap_last w (.cells #[.int .i64 ae, .int .i64 ah, .int .i64 afw, .int .i64 aft, .int .i64 acl, .int .i64 alo, .slice p L.length c, .slice q R.length d, .slice s D.length t] 33)
  rw [hW] at hA hW0
  have HB := Lib.hid hW0; have HW := Lib.hid hW
  have HC := Lib.hid (h.keep hW0 (Nat.le_refl _))
  have kA := block_cells hA
  clear h hA hW hW0
  go_enter Try.func29, Try.ntmps29
  go_upto_region 1 with fail
  rw [HW.out]
  clear HW
  go_wp2_with fail
  go_loopw [3] (fun i wr => ∃ k : Nat, k ≤ L.length ∧ i = .int .i64 k ∧ Hid (∀ j, (hj : j < L.length) → j < k → LkZ L[j].1) ∧ wr = W) (fun i _ => L.length - (intOf i).toNat)
  case atStart => exact ⟨0, Nat.zero_le _, rfl, fun j hj h => absurd h (by omega), rfl⟩
  case round =>
    obtain ⟨k, hk, rfl, HT, rfl⟩ := hrel
    by_cases hlt : k < L.length
    · have hd1 : decide ((k : Int) < (L.length : Int)) = true := by simp; omega
      have hgt : (k : Int) < (L.length : Int) := by omega
      obtain ⟨g, o, hpe, hg0, hv, h0, hc1, h2, h3, h4, h5, h6, h7, h8, h9, h10, h11⟩ := HC.out k hlt
      obtain ⟨⟨x, px, cx⟩, hx⟩ : ∃ e, L[k] = e := ⟨_, rfl⟩
      rw [hx] at h0 hc1 h2 h3 h4 h5 h6 h7 h8 h9 h10 h11
      dsimp only at h0 hc1 h2 h3 h4 h5 h6 h7 h8 h9 h10 h11
      subst hpe
      have HXV : Hid (LkZ x → ∀ j, (hj : j < L.length) → j < k + 1 → LkZ L[j].1) := fun hxz j hj hjk => by
        by_cases hjk' : j < k
        · exact HT.out j hj hjk'
        · obtain rfl : j = k := by omega
          rw [hx]; exact hxz
      clear hx hv h0 hc1
      by_cases e1 : x.lk = true
      · have HT2 := Lib.hid (HXV.out (fun h => by rw [e1] at h; cases h))
        rw [e1] at h2
        have hu : undef = Value.tuple #[] := rfl
        clear HXV e1 h3 h4 h5 h6 h7 h8 h9 h10 h11
        go_wp2_with fail
        (try rw [← hu])
        clear hu
        go_roundw
        case rel => exact ⟨k + 1, by omega, by go_num, HT2, by first | rfl | trivial⟩
        case measure => simp [intOf]; omega
      have e1' : x.lk = false := by simpa using e1
      rw [e1'] at h2
      by_cases e2 : x.yn = 0 ∧ x.yl = 0 ∧ x.ys = 0 ∧ x.ya = 0 ∧ x.hm = 0 ∧ x.sw = 0 ∧ x.st = 0 ∧ x.lr = false ∧ x.ld = ⟨#[]⟩
      · have HT2 := Lib.hid (HXV.out (fun _ => by
          obtain ⟨f0, f1, f2, f3, f4, f5, f6, f7, f8⟩ := e2
          cases x; simp_all))
        obtain ⟨f0, f1, f2, f3, f4, f5, f6, f7, f8⟩ := e2
        rw [f0] at h3; rw [f1] at h4; rw [f2] at h5; rw [f3] at h6; rw [f4] at h7; rw [f5] at h8; rw [f6] at h9; rw [f7] at h10; rw [f8] at h11
        have hq := fun w => neq_lk_yes 0 0 0 0 0 0 0 false ⟨#[]⟩ w
        clear HXV e1 e1' f0 f1 f2 f3 f4 f5 f6 f7 f8
        go_wp2_with fail
        go_roundw
        case rel => exact ⟨k + 1, by omega, by go_num, HT2, by first | rfl | trivial⟩
        case measure => simp [intOf]; omega
      · have hq := fun w => neq_lk_no x.yn x.yl x.ys x.ya x.hm x.sw x.st x.lr x.ld 0 0 0 0 0 0 0 false ⟨#[]⟩ w e2
        clear HXV e1 e1' e2
        go_wp2_with fail
        go_ret
        exact ⟨⟨false, rfl, fun h => by cases h⟩, HB.out⟩
    · obtain rfl : k = L.length := by omega
      have hd1 : decide ((L.length : Int) < (L.length : Int)) = false := by simp
      have HY : Hid (∀ j, (hj : j < L.length) → LkZ L[j].1) := fun j hj => HT.out j hj hj
      go_wp2_with fail
      go_ret
      exact ⟨⟨true, rfl, fun _ => HY.out⟩, HB.out⟩
end Go.Proofs.Ytmhmlpfkdpjlaaa
