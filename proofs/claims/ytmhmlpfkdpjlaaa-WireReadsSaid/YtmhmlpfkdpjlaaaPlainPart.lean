import Derived.Test.YtmhmlpfkdpjlaaaWireQ
/- Wire: are two lists of cells the same? Package wire's. -/
namespace Go.Proofs.Ytmhmlpfkdpjlaaa
open Go.ChangeShapes Go.WideShapes Go.ChangeAt Go.RowKit

/-- A cell, and where its versions lie. -/
abbrev CeL := CeX × Option Addr × Nat
def CesAt (w : World) (p : Option Addr) (L : List CeL) : Prop := ∀ j, (hj : j < L.length) → ∃ g o, p = some ⟨g, o, none⟩ ∧ g < w.heap.size ∧ VesAt w L[j].2.1 L[j].1.vs ∧ w.cell? ⟨g, o + j * 12, none⟩ = some (.string L[j].1.k) ∧ w.cell? ⟨g, o + j * 12 + 1, none⟩ = some (.slice L[j].2.1 L[j].1.vs.length L[j].2.2) ∧ w.cell? ⟨g, o + j * 12 + 2, none⟩ = some (.bool L[j].1.lk) ∧ w.cell? ⟨g, o + j * 12 + 3, none⟩ = some (.int .i64 L[j].1.yn) ∧ w.cell? ⟨g, o + j * 12 + 4, none⟩ = some (.int .i64 L[j].1.yl) ∧ w.cell? ⟨g, o + j * 12 + 5, none⟩ = some (.int .i64 L[j].1.ys) ∧ w.cell? ⟨g, o + j * 12 + 6, none⟩ = some (.int .i64 L[j].1.ya) ∧ w.cell? ⟨g, o + j * 12 + 7, none⟩ = some (.int .i64 L[j].1.hm) ∧ w.cell? ⟨g, o + j * 12 + 8, none⟩ = some (.int .i64 L[j].1.sw) ∧ w.cell? ⟨g, o + j * 12 + 9, none⟩ = some (.int .i64 L[j].1.st) ∧ w.cell? ⟨g, o + j * 12 + 10, none⟩ = some (.bool L[j].1.lr) ∧ w.cell? ⟨g, o + j * 12 + 11, none⟩ = some (.string L[j].1.ld)
theorem CesAt.keep {w w' : World} {p : Option Addr} {L : List CeL} (h : CesAt w p L) {B : Nat} (hb : Below B w w') (hB : w.heap.size ≤ B) : CesAt w' p L := fun j hj => by
  obtain ⟨g, o, e, hg, hv, h0, h1, h2, h3, h4, h5, h6, h7, h8, h9, h10, h11⟩ := h j hj
  exact ⟨g, o, e, Nat.lt_of_lt_of_le hg hb.size, hv.keep hb hB, (hb.cell (p := ⟨g, o + j * 12, none⟩) (by show g < B; omega)).trans h0, (hb.cell (p := ⟨g, o + j * 12 + 1, none⟩) (by show g < B; omega)).trans h1, (hb.cell (p := ⟨g, o + j * 12 + 2, none⟩) (by show g < B; omega)).trans h2, (hb.cell (p := ⟨g, o + j * 12 + 3, none⟩) (by show g < B; omega)).trans h3, (hb.cell (p := ⟨g, o + j * 12 + 4, none⟩) (by show g < B; omega)).trans h4, (hb.cell (p := ⟨g, o + j * 12 + 5, none⟩) (by show g < B; omega)).trans h5, (hb.cell (p := ⟨g, o + j * 12 + 6, none⟩) (by show g < B; omega)).trans h6, (hb.cell (p := ⟨g, o + j * 12 + 7, none⟩) (by show g < B; omega)).trans h7, (hb.cell (p := ⟨g, o + j * 12 + 8, none⟩) (by show g < B; omega)).trans h8, (hb.cell (p := ⟨g, o + j * 12 + 9, none⟩) (by show g < B; omega)).trans h9, (hb.cell (p := ⟨g, o + j * 12 + 10, none⟩) (by show g < B; omega)).trans h10, (hb.cell (p := ⟨g, o + j * 12 + 11, none⟩) (by show g < B; omega)).trans h11⟩
theorem wcellX_any (a b : CeX) (pa pb : Option Addr) (ca cb : Nat) (w : World) (l1 : a.vs.length ≤ 1000000) (l2 : b.vs.length ≤ 1000000) (h1 : VesAt w pa a.vs) (h2 : VesAt w pb b.vs) :
    Calls Try.prog 34 #[.agg #[.string a.k, .slice pa a.vs.length ca, .bool a.lk, .int .i64 a.yn, .int .i64 a.yl, .int .i64 a.ys, .int .i64 a.ya, .int .i64 a.hm, .int .i64 a.sw, .int .i64 a.st, .bool a.lr, .string a.ld], .agg #[.string b.k, .slice pb b.vs.length cb, .bool b.lk, .int .i64 b.yn, .int .i64 b.yl, .int .i64 b.ys, .int .i64 b.ya, .int .i64 b.hm, .int .i64 b.sw, .int .i64 b.st, .bool b.lr, .string b.ld]] w fun e w' => e = .returned (.bool (decide (a = b))) ∧ Below w.heap.size w w' := by
  cases a; cases b
  exact wcell_any _ _ _ _ _ _ _ _ _ _ _ _ _ _ _ _ _ _ _ _ _ _ _ _ pa pb ca cb w l1 l2 h1 h2
set_option maxRecDepth 100000 in
set_option maxHeartbeats 8000000 in
theorem eqCe_any (L M : List CeL) (p q : Option Addr) (c d : Nat) (w : World) (hl : L.length ≤ 1000000) (_hm : M.length ≤ 1000000) (hL : ∀ x ∈ L, x.1.vs.length ≤ 1000000) (hM : ∀ x ∈ M, x.1.vs.length ≤ 1000000) (h1 : CesAt w p L) (h2 : CesAt w q M) :
    Calls Try.prog 36 #[.slice p L.length c, .slice q M.length d, .func (.func 34) #[] #[]] w fun r w' => r = .returned (.bool (decide (L.map (·.1) = M.map (·.1)))) ∧ Below w.heap.size w w' := by
  have H1 := Lib.hid h1; have H2 := Lib.hid h2; have HL := Lib.hid hL; have HM := Lib.hid hM
  clear h1 h2 hL hM
  by_cases hne : L.length = M.length
  rotate_left
  · have HN : Hid (decide (L.map (·.1) = M.map (·.1)) = false) := by show _ = _; rw [decide_eq_false_iff_not]; intro e; exact hne (by have := congrArg List.length e; simpa using this)
    have hd : ((L.length : Int) != (M.length : Int)) = true := by simp; omega
    have hd2 : (L.length != M.length) = true := by simpa using hne
    clear hne
    go_enter Try.func36, Try.ntmps36
    go_wp2_with fail
    go_ret
    exact ⟨ret_boolW HN.out.symm, Below.refl _ _⟩
  have hne1 : (L.length != M.length) = false := by simp [hne]
  have hne2 : ((L.length : Int) != (M.length : Int)) = false := by simp [hne]
  obtain ⟨hl1, hl2⟩ : L.length ≤ M.length ∧ M.length ≤ L.length := by omega
  clear hne
  go_enter Try.func36, Try.ntmps36
  go_wp2_with fail
  go_loopw [17] (fun i wr => ∃ k : Nat, k ≤ L.length ∧ i = .int .i64 k ∧ Hid ((L.map (·.1)).take k = (M.map (·.1)).take k) ∧ Hid (Below w.heap.size w wr)) (fun i _ => L.length - (intOf i).toNat)
  case atStart => exact ⟨0, Nat.zero_le _, rfl, rfl, Below.refl _ _⟩
  case round =>
    obtain ⟨k, hk, rfl, HT, HB⟩ := hrel
    obtain ⟨wk, rfl⟩ : ∃ wk : World, wk = wr := ⟨_, rfl⟩
    by_cases hlt : k < L.length
    · have hlt' : k < M.length := by omega
      obtain ⟨ga, oa, hpa, hga, hva, qa0, qa1, qa2, qa3, qa4, qa5, qa6, qa7, qa8, qa9, qa10, qa11⟩ := (H1.out.keep HB.out (Nat.le_refl _)) k hlt
      obtain ⟨gb, ob, hpb, hgb, hvb, qb0, qb1, qb2, qb3, qb4, qb5, qb6, qb7, qb8, qb9, qb10, qb11⟩ := (H2.out.keep HB.out (Nat.le_refl _)) k hlt'
      have hxl := HL.out L[k] (List.getElem_mem hlt)
      have hyl := HM.out M[k] (List.getElem_mem hlt')
      obtain ⟨⟨x, px, cx⟩, hx⟩ : ∃ e, L[k] = e := ⟨_, rfl⟩
      obtain ⟨⟨y, py, cy⟩, hy⟩ : ∃ e, M[k] = e := ⟨_, rfl⟩
      rw [hx] at hva hxl qa0 qa1 qa2 qa3 qa4 qa5 qa6 qa7 qa8 qa9 qa10 qa11
      rw [hy] at hvb hyl qb0 qb1 qb2 qb3 qb4 qb5 qb6 qb7 qb8 qb9 qb10 qb11
      dsimp only at hva hxl hvb hyl qa0 qb0 qa1 qb1 qa2 qb2 qa3 qb3 qa4 qb4 qa5 qb5 qa6 qb6 qa7 qb7 qa8 qb8 qa9 qb9 qa10 qb10 qa11 qb11
      subst hpa hpb
      have hd1 : decide ((k : Int) < (L.length : Int)) = true := by simp; omega
      have hd2 : decide ((k : Int) < (M.length : Int)) = true := by simp; omega
      have hgk1 : (k : Int) < (L.length : Int) := by omega
      have hgk2 : (k : Int) < (M.length : Int) := by omega
      have hgan : ga ≠ wk.heap.size := by omega
      have hgbn : gb ≠ wk.heap.size := by omega
      have hW1 : Below wk.heap.size wk (wk.alloc (.cells #[.string x.k, .slice px x.vs.length cx, .bool x.lk, .int .i64 x.yn, .int .i64 x.yl, .int .i64 x.ys, .int .i64 x.ya, .int .i64 x.hm, .int .i64 x.sw, .int .i64 x.st, .bool x.lr, .string x.ld] 75)) := (Below.refl _ _).alloc (Nat.le_refl _) _
      have hW : Below wk.heap.size wk ((wk.alloc (.cells #[.string x.k, .slice px x.vs.length cx, .bool x.lk, .int .i64 x.yn, .int .i64 x.yl, .int .i64 x.ys, .int .i64 x.ya, .int .i64 x.hm, .int .i64 x.sw, .int .i64 x.st, .bool x.lr, .string x.ld] 75)).alloc (.cells #[.string y.k, .slice py y.vs.length cy, .bool y.lk, .int .i64 y.yn, .int .i64 y.yl, .int .i64 y.ys, .int .i64 y.ya, .int .i64 y.hm, .int .i64 y.sw, .int .i64 y.st, .bool y.lr, .string y.ld] 75)) := hW1.alloc hW1.size _
      have HC := Lib.hid (wcellX_any x y px py cx cy _ hxl hyl (hva.keep hW (Nat.le_refl _)) (hvb.keep hW (Nat.le_refl _)))
      have HBB := Lib.hid (HB.out.trans (hW.mono HB.out.size))
      have HE : Hid (x = y → (L.map (·.1)).take (k + 1) = (M.map (·.1)).take (k + 1)) := fun e => take_nextW HT.out (by simpa using hlt) (by simpa using hlt') (by simp [hx, hy, e])
      have HNE : Hid (x ≠ y → decide (L.map (·.1) = M.map (·.1)) = false) := fun h => by
        rw [decide_eq_false_iff_not]; intro e
        have h1 : (L.map (·.1))[k]? = (M.map (·.1))[k]? := by rw [e]
        rw [List.getElem?_map, List.getElem?_map, List.getElem?_eq_getElem hlt, List.getElem?_eq_getElem hlt', hx, hy] at h1
        exact h (by simpa using h1)
      clear hx hy hW hW1 hva hvb
      go_wp2_with fail
      refine HC.out.mono ?_; rintro r w1 ⟨rfl, hb1⟩
      have HB2 := Lib.hid (HBB.out.trans (hb1.mono HBB.out.size))
      clear hb1 HC HBB qa0 qb0 qa1 qb1 qa2 qb2 qa3 qb3 qa4 qb4 qa5 qb5 qa6 qb6 qa7 qb7 qa8 qb8 qa9 qb9 qa10 qb10 qa11 qb11 HB HT
      by_cases hxy : x = y
      · have hde : decide (x = y) = true := decide_eq_true hxy
        have HT' := Lib.hid (HE.out hxy)
        clear HE HNE hxy
        go_wp2_with fail
        go_roundw
        case rel => exact ⟨k + 1, by omega, by go_num, HT', HB2⟩
        case measure => simp [intOf]; omega
      · have hde : decide (x = y) = false := decide_eq_false hxy
        have HN := Lib.hid (HNE.out hxy)
        clear HE HNE hxy
        go_wp2_with fail
        go_ret
        exact ⟨ret_boolW HN.out.symm, HB2.out⟩
    · obtain rfl : k = L.length := by omega
      have HN : Hid (decide (L.map (·.1) = M.map (·.1)) = true) := by
        show _ = _; rw [decide_eq_true_iff]
        have := HT.out
        rw [List.take_of_length_le (by simp), List.take_of_length_le (by simp; omega)] at this; exact this
      have hd1 : decide ((L.length : Int) < (L.length : Int)) = false := by simp
      go_wp2_with fail
      go_ret
      exact ⟨ret_boolW HN.out.symm, HB.out⟩
end Go.Proofs.Ytmhmlpfkdpjlaaa
/- Wire: what a state's parts may be, and their bytes. -/
namespace Go.Proofs.Ytmhmlpfkdpjlaaa

structure VeF (x : VeX) : Prop where
  w : In64 x.w
  t : In64 x.t
  d : TxF x.d
structure OuF (x : OuX) : Prop where
  yn : In64 x.yn
  yl : In64 x.yl
  ys : In64 x.ys
  ya : In64 x.ya
  sw : In64 x.sw
  st : In64 x.st
structure CeF (x : CeX) : Prop where
  k : TxF x.k
  nvs : x.vs.length ≤ 9223372036854775807
  vs : ∀ v ∈ x.vs, VeF v
  yn : In64 x.yn
  yl : In64 x.yl
  ys : In64 x.ys
  ya : In64 x.ya
  hm : In64 x.hm
  sw : In64 x.sw
  st : In64 x.st
  ld : TxF x.ld
/-- A state, and where its cells' versions lie. -/
structure PaL where
  e : Int
  h : Int
  fw : Int
  ft : Int
  cl : Int
  lo : Int
  cs : List CeL
  rs : List OuX
  ds : List OuX
structure PaF (P : PaL) : Prop where
  e : In64 P.e
  h : In64 P.h
  fw : In64 P.fw
  ft : In64 P.ft
  cl : In64 P.cl
  lo : In64 P.lo
  cs : ∀ x ∈ P.cs, CeF x.1
  rs : ∀ x ∈ P.rs, OuF x
  ds : ∀ x ∈ P.ds, OuF x
  ncs : P.cs.length ≤ 9223372036854775807
  nrs : P.rs.length ≤ 9223372036854775807
  nds : P.ds.length ≤ 9223372036854775807
def PaL.x (P : PaL) : PaX := ⟨P.e, P.h, P.fw, P.ft, P.cl, P.lo, P.cs.map (·.1), P.rs, P.ds⟩
def encVe (x : VeX) : List Int := stampB x.w x.t ++ encF x.r ++ encT x.d
def encOu (x : OuX) : List Int := encY x.yn x.yl x.ys x.ya ++ stampB x.sw x.st ++ encF x.yes
def encLk (x : CeX) : List Int := encF x.lk ++ if x.lk then encY x.yn x.yl x.ys x.ya ++ encN x.hm ++ stampB x.sw x.st ++ encF x.lr ++ encT x.ld else []
def encCe (x : CeX) : List Int := encT x.k ++ encN x.vs.length ++ x.vs.flatMap encVe ++ encLk x
def encOus (l : List OuX) : List Int := encN l.length ++ l.flatMap encOu
def encPaHd (p : PaX) : List Int := [2] ++ encN p.e ++ encN p.h ++ stampB p.fw p.ft ++ encN p.cl ++ encN p.lo ++ encN p.cs.length
def encPa (p : PaX) : List Int := encPaHd p ++ p.cs.flatMap encCe ++ encOus p.rs ++ encOus p.ds
end Go.Proofs.Ytmhmlpfkdpjlaaa
