import Derived.Test.YtbnndbdnejfehaaGreatDoorLogJ
import Derived.Test.YtbnndbdnejfehaaGreatDoorLogP
import Derived.Lib.MinMax
/- entries: Slice. -/
namespace Go.Proofs.YtbnndbdnejfehaaGreatDoor
open Go.ChangeShapes Go.WideShapes Go.ChangeAt Go.RowKit

def fromK (l : Lg) (from' : Int) : Nat := if l.b < from' then min (from' - l.b - 1).toNat l.es.length else 0
def sliceL (l : Lg) (from' most : Int) : List Ent := (l.es.drop (fromK l from')).take most.toNat
theorem slice_leaf {w W : World} {q : Option Addr} {c' k m : Nat} {L : List Ent} {most : Int} {v : Value} (hE : EnSl w (.slice q (L.length - k) c') (L.drop k)) (hb : Below w.heap.size w W) (hk : k ≤ L.length) (hM : m = min most.toNat (L.length - k)) (hv : v = .slice q m c') : EnSl W v ((L.drop k).take most.toNat) := by
  subst hv
  have hl : L.length - k = (L.drop k).length := by rw [List.length_drop]
  rw [hl] at hE
  have h := (hE.keep hb (Nat.le_refl _)).take (n := m) (by rw [List.length_drop]; omega)
  have hl : ((L.drop k).take m).length = m := by rw [List.length_take, List.length_drop]; omega
  have ht : (L.drop k).take m = (L.drop k).take most.toNat := by rw [hM, ← List.length_drop, ← List.take_eq_take_min]
  rw [hl, ht] at h
  exact h
set_option maxRecDepth 100000 in
set_option maxHeartbeats 4000000 in
theorem slice_any (l : Lg) (p : Option Addr) (c : Nat) (fr most : Int) (w : World) (h0 : 0 ≤ l.b) (h1 : l.b ≤ 1152921504606846976) (hn : l.es.length ≤ 1000000) (f0 : fr ≤ 9223372036854775807) (m1 : most ≤ 9223372036854775807) (hE : EnSl w (.slice p l.es.length c) l.es) :
    Calls Tryz.prog 88 #[.agg #[.int .i64 l.b, .int .i64 l.bt, .int .u16 l.j.ov, .int .u16 l.j.ox, .int .u16 l.j.ol, .int .i64 l.j.oe, .int .i64 l.j.ok, .int .u16 l.j.nv, .int .u16 l.j.nx, .int .u16 l.j.nl, .int .i64 l.j.ne, .int .i64 l.j.nk, .bool l.j.two, .slice p l.es.length c], .int .i64 fr, .int .i64 most] w fun r w' => ∃ v, r = .returned v ∧ w'.ownsRow w.heap.size 47 14 v (sliceL l fr most).length (entRow (sliceL l fr most)) ∧ Below w.heap.size w w' := by
  obtain ⟨p', c', he, hc1, hc2⟩ := hE.form
  simp only [Value.slice.injEq] at he
  obtain ⟨rfl, -, rfl⟩ := he
  unfold maxLen at hc2
  have HE := Lib.hid hE
  clear hE
  have hk0 : ∃ k : Nat, k ≤ l.es.length ∧ sliceL l fr most = (l.es.drop k).take most.toNat ∧ ((l.b < fr ∧ min (max (fr - l.b - 1) 0) (l.es.length : Int) = k) ∨ (¬ l.b < fr ∧ k = 0)) := by
    by_cases hb : l.b < fr
    · refine ⟨min (fr - l.b - 1).toNat l.es.length, Nat.min_le_right _ _, ?_, .inl ⟨hb, by omega⟩⟩
      unfold sliceL fromK; rw [if_pos hb]
    · refine ⟨0, Nat.zero_le _, ?_, .inr ⟨hb, rfl⟩⟩
      unfold sliceL fromK; rw [if_neg hb]
  obtain ⟨k, hkl, hs, hk1⟩ := hk0
  have HS := Lib.hid hs
  obtain ⟨m, hm⟩ : ∃ m : Nat, min (max most 0) ((l.es.length - k : Nat) : Int) = m := ⟨(min (max most 0) ((l.es.length - k : Nat) : Int)).toNat, by omega⟩
  have HM := Lib.hid hm
  have hm1 : m ≤ l.es.length - k := by omega
  have hm2 : m = min most.toNat (l.es.length - k) := by omega
  have HM2 := Lib.hid hm2
  clear hs hm hm2
  rcases hk1 with ⟨hb, hk⟩ | ⟨hb, hk⟩
  · have HK := Lib.hid hk
    clear hk
    have hd : decide (l.b < fr) = true := by simpa using hb
    go_enter Tryz.func88, Tryz.ntmps88
    go_upto_region 4 with fail
    rw [HK.out]
    have hsl := HE.out.drop_if hkl
    by_cases hck : c = k
    · rw [if_pos hck] at hsl
      have HSL := Lib.hid hsl
      clear hsl
      have hkc : k = l.es.length := by omega
      subst hkc
      subst hck
      rw [Nat.sub_self] at HM HM2 HSL
      go_upto_region 5 with fail
      go_wp2_with fail
      refine (clone_any _ ((l.es.drop l.es.length).take most.toNat) _ (slice_leaf (by rw [Nat.sub_self]; exact HSL.out) ((Below.refl _ _).alloc (Nat.le_refl _) _) (Nat.le_refl _) (by omega) rfl) (by rw [List.length_take, List.length_drop]; omega)).mono ?_
      rintro r w2 ⟨v, rfl, ho, hb2⟩
      have HO := Lib.hid (ho.mono (base' := w.heap.size) (by simp))
      have HB2 : Hid (Below w.heap.size w w2) := ((Below.refl _ _).alloc (Nat.le_refl _) _).trans (hb2.mono (by simp))
      clear ho hb2
      go_wp2_with fail
      go_ret
      rw [HS.out]
      exact ⟨_, rfl, HO.out, HB2.out⟩
    · rw [if_neg hck] at hsl
      have HSL := Lib.hid hsl
      clear hsl
      go_upto_region 5 with fail
      have hm := HM.out
      go_wp2_with fail
      refine (clone_any _ ((l.es.drop k).take most.toNat) _ (slice_leaf HSL.out ((Below.refl _ _).alloc (Nat.le_refl _) _) (by omega) HM2.out rfl) (by rw [List.length_take, List.length_drop]; omega)).mono ?_
      rintro r w2 ⟨v, rfl, ho, hb2⟩
      have HO := Lib.hid (ho.mono (base' := w.heap.size) (by simp))
      have HB2 : Hid (Below w.heap.size w w2) := ((Below.refl _ _).alloc (Nat.le_refl _) _).trans (hb2.mono (by simp))
      clear ho hb2 hm
      go_wp2_with fail
      go_ret
      rw [HS.out]
      exact ⟨_, rfl, HO.out, HB2.out⟩
  · have hd : decide (l.b < fr) = false := by simpa using hb
    subst hk
    have hsl : EnSl w (.slice p (l.es.length - 0) c) (l.es.drop 0) := HE.out
    have HSL := Lib.hid hsl
    clear hsl
    go_enter Tryz.func88, Tryz.ntmps88
    go_upto_region 5 with fail
    have hm := (show min (max most 0) (l.es.length : Int) = m from HM.out)
    go_wp2_with fail
    refine (clone_any _ ((l.es.drop 0).take most.toNat) _ (slice_leaf HSL.out ((Below.refl _ _).alloc (Nat.le_refl _) _) (by omega) HM2.out rfl) (by rw [List.length_take, List.length_drop]; omega)).mono ?_
    rintro r w2 ⟨v, rfl, ho, hb2⟩
    have HO := Lib.hid (ho.mono (base' := w.heap.size) (by simp))
    have HB2 : Hid (Below w.heap.size w w2) := ((Below.refl _ _).alloc (Nat.le_refl _) _).trans (hb2.mono (by simp))
    clear ho hb2 hm
    go_wp2_with fail
    go_ret
    rw [HS.out]
    exact ⟨_, rfl, HO.out, HB2.out⟩
end Go.Proofs.YtbnndbdnejfehaaGreatDoor
/- A log that lies in a block of memory, with its entries; and how it stays. -/
namespace Go.Proofs.YtbnndbdnejfehaaGreatDoor
open Go.ChangeShapes Go.WideShapes Go.ChangeAt Go.RowKit

/-- A log, stored in a block: the block's cells, and the entries that it points at. -/
structure Lies (W : World) (A : Nat) (l : Lg) (p : Option Addr) (c : Nat) : Prop where
  h : W.heap[A]? = some (.cells #[.int .i64 l.b, .int .i64 l.bt, .int .u16 l.j.ov, .int .u16 l.j.ox, .int .u16 l.j.ol, .int .i64 l.j.oe, .int .i64 l.j.ok, .int .u16 l.j.nv, .int .u16 l.j.nx, .int .u16 l.j.nl, .int .i64 l.j.ne, .int .i64 l.j.nk, .bool l.j.two, .slice p l.es.length c] 30 (0, 0))
  e : EnSl W (.slice p l.es.length c) l.es
theorem Lies.keep {W W' : World} {A : Nat} {l : Lg} {p : Option Addr} {c : Nat} (h : Lies W A l p c) (hb : Below W.heap.size W W') : Lies W' A l p c := ⟨below_block hb (block_lt h.h) h.h, h.e.keep hb (Nat.le_refl _)⟩
theorem Lies.new {w W : World} {l : Lg} {p : Option Addr} {c : Nat} (he : EnSl w (.slice p l.es.length c) l.es) (hW : w.alloc (.cells #[.int .i64 l.b, .int .i64 l.bt, .int .u16 l.j.ov, .int .u16 l.j.ox, .int .u16 l.j.ol, .int .i64 l.j.oe, .int .i64 l.j.ok, .int .u16 l.j.nv, .int .u16 l.j.nx, .int .u16 l.j.nl, .int .i64 l.j.ne, .int .i64 l.j.nk, .bool l.j.two, .slice p l.es.length c] 30) = W) : Lies W w.heap.size l p c := by
  subst hW; exact ⟨heap_last _ _, he.keep ((Below.refl _ _).alloc (Nat.le_refl _) _) (Nat.le_refl _)⟩
theorem Lies.at {W W' : World} {A : Nat} {l : Lg} {p : Option Addr} {c : Nat} (h : Lies W A l p c) (hb : Below W.heap.size W W') : ∀ j, W'.cell? ⟨A, j, none⟩ = #[.int .i64 l.b, .int .i64 l.bt, .int .u16 l.j.ov, .int .u16 l.j.ox, .int .u16 l.j.ol, .int .i64 l.j.oe, .int .i64 l.j.ok, .int .u16 l.j.nv, .int .u16 l.j.nx, .int .u16 l.j.nl, .int .i64 l.j.ne, .int .i64 l.j.nk, .bool l.j.two, .slice p l.es.length c][j]? := block_cells (h.keep hb).h
theorem Lies.cell {W : World} {A : Nat} {l : Lg} {p : Option Addr} {c : Nat} (h : Lies W A l p c) : ∀ j, W.cell? ⟨A, j, none⟩ = #[.int .i64 l.b, .int .i64 l.bt, .int .u16 l.j.ov, .int .u16 l.j.ox, .int .u16 l.j.ol, .int .i64 l.j.oe, .int .i64 l.j.ok, .int .u16 l.j.nv, .int .u16 l.j.nx, .int .u16 l.j.nl, .int .i64 l.j.ne, .int .i64 l.j.nk, .bool l.j.two, .slice p l.es.length c][j]? := block_cells h.h
theorem below_new (w : World) (o : Obj) {W : World} (hW : w.alloc o = W) : Below w.heap.size w W := by subst hW; exact (Below.refl _ _).alloc (Nat.le_refl _) _
theorem wf_i64 {n : Int} (h : (Lit.int .i64 n).wf = true) : -9223372036854775808 ≤ n ∧ n ≤ 9223372036854775807 := by
  have h1 : IntKind.i64.min = -9223372036854775808 := rfl
  have h2 : IntKind.i64.max = 9223372036854775807 := rfl
  simp only [Lit.wf, Bool.and_eq_true, decide_eq_true_eq] at h; omega
end Go.Proofs.YtbnndbdnejfehaaGreatDoor
/- The reference of entries: what is in force at the end, and where it stands. -/
namespace Go.Proofs.YtbnndbdnejfehaaGreatDoor
open Go.ChangeShapes Go.WideShapes Go.ChangeAt Go.RowKit

/-- What is in force behind the first k entries, and its number. -/
def confA (l : Lg) : Nat → Jn × Int
  | 0 => (l.j, l.b)
  | k + 1 => if (l.es.getD k ent0).k = 2 then ((l.es.getD k ent0).j, l.b + 1 + k) else confA l k
theorem confA_conf (l : Lg) (k : Nat) (hk : k ≤ l.es.length) : (confA l k).1 = confF l.j (l.es.take k) := by
  induction k with
  | zero => rfl
  | succ k ih =>
    have hlt : k < l.es.length := hk
    rw [List.take_succ_eq_append_getElem hlt, confF_app, ← ih (by omega)]
    have hg : l.es.getD k ent0 = l.es[k] := by simp [List.getD, List.getElem?_eq_getElem hlt]
    simp only [confA, hg, confF, List.foldl_cons, List.foldl_nil]
    split <;> rfl
theorem confA_all (l : Lg) : (confA l l.es.length).1 = confL l := by rw [confA_conf l _ (Nat.le_refl _), List.take_of_length_le (Nat.le_refl _)]; rfl
theorem confA_yes {l : Lg} {k : Nat} {e : Ent} (h : l.es.getD k ent0 = e) (hk : e.k = 2) : confA l (k + 1) = (e.j, l.b + 1 + k) := by simp only [confA]; rw [h, if_pos hk]
theorem confA_no {l : Lg} {k : Nat} {e : Ent} (h : l.es.getD k ent0 = e) (hk : e.k ≠ 2) : confA l (k + 1) = confA l k := by simp only [confA]; rw [h, if_neg hk]
theorem cut2 {P Q : Prop} (h : P → Q) (p : P) : Q := h p
set_option maxRecDepth 100000 in
set_option maxHeartbeats 8000000 in
theorem rconfAt_any (l : Lg) (p : Option Addr) (c : Nat) (w : World) (hF : LgFit l) (hE : EnSl w (.slice p l.es.length c) l.es) {J : Jn} {X : Int} (hJ : confA l l.es.length = (J, X)) :
    Calls Tryz.prog 131 #[.agg #[.int .i64 l.b, .int .i64 l.bt, .int .u16 l.j.ov, .int .u16 l.j.ox, .int .u16 l.j.ol, .int .i64 l.j.oe, .int .i64 l.j.ok, .int .u16 l.j.nv, .int .u16 l.j.nx, .int .u16 l.j.nl, .int .i64 l.j.ne, .int .i64 l.j.nk, .bool l.j.two, .slice p l.es.length c]] w fun r w' => r = .returned (.tuple #[.agg #[.int .u16 J.ov, .int .u16 J.ox, .int .u16 J.ol, .int .i64 J.oe, .int .i64 J.ok, .int .u16 J.nv, .int .u16 J.nx, .int .u16 J.nl, .int .i64 J.ne, .int .i64 J.nk, .bool J.two], .int .i64 X]) ∧ Below w.heap.size w w' := by
  have HF : Hid (LgFit l) := hF
  have HE := Lib.hid hE
  have HJ := Lib.hid hJ
  have hb0 := hF.b0; have hb1 := hF.b1; have hn2 := hF.n
  clear hF hE hJ
  go_enter Tryz.func131, Tryz.ntmps131
  go_upto_region 1 with fail
  obtain ⟨W0, hW0⟩ : ∃ W0, w.alloc (.cells #[.int .i64 l.b, .int .i64 l.bt, .int .u16 l.j.ov, .int .u16 l.j.ox, .int .u16 l.j.ol, .int .i64 l.j.oe, .int .i64 l.j.ok, .int .u16 l.j.nv, .int .u16 l.j.nx, .int .u16 l.j.nl, .int .i64 l.j.ne, .int .i64 l.j.nk, .bool l.j.two, .slice p l.es.length c] 30) = W0 := ⟨_, rfl⟩
  obtain ⟨W, hW⟩ : ∃ W, W0.alloc (.cells #[.int .u16 0, .int .u16 0, .int .u16 0, .int .i64 0, .int .i64 0, .int .u16 0, .int .u16 0, .int .u16 0, .int .i64 0, .int .i64 0, .bool false] 27) = W := ⟨_, rfl⟩
  have hs0 : W0.heap.size = w.heap.size + 1 := by rw [← hW0]; simp
  have LL := Lib.hid ((Lies.new HE.out hW0).keep (below_new _ _ hW))
  have hZ : W.heap[w.heap.size + 1]? = some (.cells #[.int .u16 0, .int .u16 0, .int .u16 0, .int .i64 0, .int .i64 0, .int .u16 0, .int .u16 0, .int .u16 0, .int .i64 0, .int .i64 0, .bool false] 27 (0, 0)) := by rw [← hW, ← hs0]; exact heap_last _ _
  have HZ := Lib.hid hZ
  have HBW : Hid (Below w.heap.size w W) := (below_new _ _ hW0).trans ((below_new _ _ hW).mono (below_new _ _ hW0).size)
  rw [hW0, hW]
  clear hW hW0 hs0 hZ
  have kA := LL.out.cell
  have hAW := block_lt LL.out.h
  have hne : w.heap.size ≠ W.heap.size := by omega
  have HAW := Lib.hid hAW
  apply cut2
  · intro h
    go_region_law (fail)
    all_goals exact h
  clear kA hAW hne
  obtain ⟨W1, hW1⟩ : ∃ W1, (W.alloc (.cells #[.int .u16 l.j.ov, .int .u16 l.j.ox, .int .u16 l.j.ol, .int .i64 l.j.oe, .int .i64 l.j.ok, .int .u16 l.j.nv, .int .u16 l.j.nx, .int .u16 l.j.nl, .int .i64 l.j.ne, .int .i64 l.j.nk, .bool l.j.two] 27)).drew = W1 := ⟨_, rfl⟩
  rw [hW1]
  have h1 : W1.heap[W.heap.size]? = some (.cells #[.int .u16 l.j.ov, .int .u16 l.j.ox, .int .u16 l.j.ol, .int .i64 l.j.oe, .int .i64 l.j.ok, .int .u16 l.j.nv, .int .u16 l.j.nx, .int .u16 l.j.nl, .int .i64 l.j.ne, .int .i64 l.j.nk, .bool l.j.two] 27 (0, 0)) := by rw [← hW1]; exact heap_last W _
  have h2 : Below W.heap.size W W1 := by rw [← hW1]; exact ((Below.refl _ _).alloc (Nat.le_refl _) _).drew
  have H1 := Lib.hid h1; have H2 := Lib.hid h2
  clear hW1 h1 h2
  obtain ⟨C, eC⟩ : ∃ C, W.heap.size = C := ⟨_, rfl⟩
  rw [eC] at H1 H2 HAW ⊢
  have HCR : Hid (w.heap.size + 1 < C) := by show _ < _; rw [← eC]; exact block_lt HZ.out
  have HUP : Hid (∀ wr, Below C W wr → Below w.heap.size w wr) := fun wr h => HBW.out.trans (h.mono (by rw [← eC]; exact HBW.out.size))
  have HLL : Hid (∀ wr, Below C W wr → Lies wr w.heap.size l p c) := fun wr h => LL.out.keep (by rw [eC]; exact h)
  have HZZ : Hid (∀ wr, Below C W wr → wr.heap[w.heap.size + 1]? = some (.cells #[.int .u16 0, .int .u16 0, .int .u16 0, .int .i64 0, .int .i64 0, .int .u16 0, .int .u16 0, .int .u16 0, .int .i64 0, .int .i64 0, .bool false] 27 (0, 0))) := fun wr h => below_block (B := C) h HCR.out HZ.out
  clear eC LL HZ HBW HE
  obtain ⟨A, eA⟩ : ∃ A, w.heap.size = A := ⟨_, rfl⟩
  rw [eA] at HAW HLL HZZ HCR ⊢
  have HEA : Hid (w.heap.size = A) := eA
  clear eA
  go_wp2_with fail
  go_loopw [5, 6] (fun x i wr => ∃ (k : Nat) (j : Jn) (a : Int), k ≤ l.es.length ∧ x = .int .i64 a ∧ i = .int .i64 k ∧ Hid (confA l k = (j, a)) ∧ Hid (wr.heap[C]? = some (.cells #[.int .u16 j.ov, .int .u16 j.ox, .int .u16 j.ol, .int .i64 j.oe, .int .i64 j.ok, .int .u16 j.nv, .int .u16 j.nx, .int .u16 j.nl, .int .i64 j.ne, .int .i64 j.nk, .bool j.two] 27 (0, 0))) ∧ Hid (Below C W wr)) (fun _ i _ => l.es.length - (intOf i).toNat)
  case atStart => exact ⟨0, l.j, l.b, Nat.zero_le _, rfl, rfl, rfl, H1, H2⟩
  case round =>
    clear H1 H2
    obtain ⟨k, j, a, hk, rfl, rfl, HC, HB, HL⟩ := hrel
    obtain ⟨wk, rfl⟩ : ∃ wk : World, wk = wr := ⟨_, rfl⟩
    have LK := Lib.hid (HLL.out _ HL.out)
    have kA := LK.out.cell
    by_cases hlt : k < l.es.length
    · have hd1 : decide ((k : Int) < (l.es.length : Int)) = true := by simp; omega
      obtain ⟨g, oo, cap, hv, hgl, hc⟩ := LK.out.e.at k hlt
      simp only [Value.slice.injEq] at hv
      obtain ⟨rfl, -, rfl⟩ := hv
      obtain ⟨e, he⟩ : ∃ e, l.es[k] = e := ⟨_, rfl⟩
      have hgd : l.es.getD k ent0 = e := by rw [← he]; simp [List.getD, List.getElem?_eq_getElem hlt]
      rw [he] at hc
      have hq0 : wk.cell? ⟨g, oo + k * 14, none⟩ = some (.int .i64 e.t) := hc 0 (by decide)
      have hq1 : wk.cell? ⟨g, oo + k * 14 + 1, none⟩ = some (.int .i64 e.k) := hc 1 (by decide)
      have hq2 : wk.cell? ⟨g, oo + k * 14 + 2, none⟩ = some (.string e.d) := hc 2 (by decide)
      have hq3 : wk.cell? ⟨g, oo + k * 14 + 3, none⟩ = some (.int .u16 e.j.ov) := hc 3 (by decide)
      have hq4 : wk.cell? ⟨g, oo + k * 14 + 4, none⟩ = some (.int .u16 e.j.ox) := hc 4 (by decide)
      have hq5 : wk.cell? ⟨g, oo + k * 14 + 5, none⟩ = some (.int .u16 e.j.ol) := hc 5 (by decide)
      have hq6 : wk.cell? ⟨g, oo + k * 14 + 6, none⟩ = some (.int .i64 e.j.oe) := hc 6 (by decide)
      have hq7 : wk.cell? ⟨g, oo + k * 14 + 7, none⟩ = some (.int .i64 e.j.ok) := hc 7 (by decide)
      have hq8 : wk.cell? ⟨g, oo + k * 14 + 8, none⟩ = some (.int .u16 e.j.nv) := hc 8 (by decide)
      have hq9 : wk.cell? ⟨g, oo + k * 14 + 9, none⟩ = some (.int .u16 e.j.nx) := hc 9 (by decide)
      have hq10 : wk.cell? ⟨g, oo + k * 14 + 10, none⟩ = some (.int .u16 e.j.nl) := hc 10 (by decide)
      have hq11 : wk.cell? ⟨g, oo + k * 14 + 11, none⟩ = some (.int .i64 e.j.ne) := hc 11 (by decide)
      have hq12 : wk.cell? ⟨g, oo + k * 14 + 12, none⟩ = some (.int .i64 e.j.nk) := hc 12 (by decide)
      have hq13 : wk.cell? ⟨g, oo + k * 14 + 13, none⟩ = some (.bool e.j.two) := hc 13 (by decide)
      have HGD := Lib.hid hgd
      clear hc he hgd hgl
      by_cases hk2 : e.k = 2
      · have HN := Lib.hid (confA_yes HGD.out hk2)
        have hq2 : (e.k == 2) = true := by simpa using hk2
        have HK2 := Lib.hid hk2
        clear hk2
        have kC := block_cells HB.out
        have fC := block_free HB.out
        have hAC := HAW.out
        have hne : A ≠ C := by omega
        go_upto_region 6 with fail
        clear hq2
        apply cut2
        · intro h
          go_region_law (fail)
          all_goals exact h
        have F := putJ_ok HB.out (.int .u16 e.j.ov) (.int .u16 e.j.ox) (.int .u16 e.j.ol) (.int .i64 e.j.oe) (.int .i64 e.j.ok) (.int .u16 e.j.nv) (.int .u16 e.j.nx) (.int .u16 e.j.nl) (.int .i64 e.j.ne) (.int .i64 e.j.nk) (.bool e.j.two)
        have w1 : IntKind.i64.wrap (l.b + 1) = l.b + 1 := wrap_ok (by omega) (by omega)
        have w2 : IntKind.i64.wrap (l.b + 1 + (k : Int)) = l.b + 1 + k := wrap_ok (by omega) (by omega)
        rw [w1, w2]
        obtain ⟨W4, hW4⟩ : ∃ W4, putJ wk C (.int .u16 e.j.ov) (.int .u16 e.j.ox) (.int .u16 e.j.ol) (.int .i64 e.j.oe) (.int .i64 e.j.ok) (.int .u16 e.j.nv) (.int .u16 e.j.nx) (.int .u16 e.j.nl) (.int .i64 e.j.ne) (.int .i64 e.j.nk) (.bool e.j.two) = W4 := ⟨_, rfl⟩
        rw [hW4] at F
        have HB5 : Hid (W4.drew.heap[C]? = some (.cells #[.int .u16 e.j.ov, .int .u16 e.j.ox, .int .u16 e.j.ol, .int .i64 e.j.oe, .int .i64 e.j.ok, .int .u16 e.j.nv, .int .u16 e.j.nx, .int .u16 e.j.nl, .int .i64 e.j.ne, .int .i64 e.j.nk, .bool e.j.two] 27 (0, 0))) := F.1
        have HL5 := Lib.hid ((below_grown HL.out F.2 (Nat.le_of_lt (block_lt HB.out)) (Nat.le_refl _)).drew)
        unfold putJ at hW4
        rw [hW4]
        clear F w1 w2 kC fC kA hW4
        go_wp2_with fail
        go_roundw
        case rel => exact ⟨k + 1, e.j, l.b + 1 + k, by omega, rfl, by go_num, HN.out, HB5.out, HL5.out⟩
        case measure => simp [intOf]; omega
      · have HN := Lib.hid (confA_no HGD.out hk2)
        have hq2 : (e.k == 2) = false := by simpa using hk2
        clear hk2
        go_wp2_with fail
        go_roundw
        case rel => exact ⟨k + 1, j, a, by omega, rfl, by go_num, HN.out.trans HC.out, HB, HL⟩
        case measure => simp [intOf]; omega
    · obtain rfl : k = l.es.length := by omega
      have hd1 : decide ((l.es.length : Int) < (l.es.length : Int)) = false := by simp
      obtain ⟨rfl, rfl⟩ : j = J ∧ a = X := by have := HC.out.symm.trans HJ.out; simpa using this
      have hz := HZZ.out _ HL.out
      have HZ := Lib.hid hz
      have kC := block_cells HB.out
      have kZ := block_cells hz
      have fZ := block_free hz
      clear hz
      go_wp2_with fail
      have F := putJ_ok HZ.out (.int .u16 j.ov) (.int .u16 j.ox) (.int .u16 j.ol) (.int .i64 j.oe) (.int .i64 j.ok) (.int .u16 j.nv) (.int .u16 j.nx) (.int .u16 j.nl) (.int .i64 j.ne) (.int .i64 j.nk) (.bool j.two)
      have HBF := below_grown (HUP.out _ HL.out) F.2 ((HUP.out _ HL.out).size) (by rw [HEA.out]; omega)
      obtain ⟨W4, hW4⟩ : ∃ W4, putJ wk (A + 1) (.int .u16 j.ov) (.int .u16 j.ox) (.int .u16 j.ol) (.int .i64 j.oe) (.int .i64 j.ok) (.int .u16 j.nv) (.int .u16 j.nx) (.int .u16 j.nl) (.int .i64 j.ne) (.int .i64 j.nk) (.bool j.two) = W4 := ⟨_, rfl⟩
      rw [hW4] at F HBF
      have kF := block_cells F.1
      unfold putJ at hW4
      rw [hW4]
      clear hW4 F
      refine bodyPost_ret (v := .tuple #[.agg #[.int .u16 j.ov, .int .u16 j.ox, .int .u16 j.ol, .int .i64 j.oe, .int .i64 j.ok, .int .u16 j.nv, .int .u16 j.nx, .int .u16 j.nl, .int .i64 j.ne, .int .i64 j.nk, .bool j.two], .int .i64 a]) ?_ rfl ⟨rfl, HBF⟩
      simp [results, Tryz.results131, go_sem, kF]
end Go.Proofs.YtbnndbdnejfehaaGreatDoor
