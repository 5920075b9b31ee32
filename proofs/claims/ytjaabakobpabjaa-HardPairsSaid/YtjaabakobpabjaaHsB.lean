/- Hard: what a record says to a core: letters H and X, and none. -/
import Derived.Test.YtjaabakobpabjaaHsA
import Derived.Test.YtjaabakobpabjaaOpenLog
namespace Go.Proofs.Ytjaabakobpabjaa
open Go.ChangeShapes Go.WideShapes Go.ChangeAt Go.RowKit

def SayE (B G cap : Nat) (l : List CoX) (n : Nat) (x : CoX) (w : World) (o : Option Rc) (e : Ending) (w' : World) : Prop :=
  e = .returned (.bool o.isSome) ∧ Below B w w' ∧ ∀ rc, o = some rc → ∃ y : CoX, y.c = apRc x.c rc ∧ CsAt B w' (.slice (some ⟨G, 0, none⟩) (l.set n y).length cap) (l.set n y)
theorem allR_yes {α : Type} {a : α} {ys : List Int} {b : Bool} {f : α → Rc} (h : (!b && ys.isEmpty) = true) : allR (a, ys, b) f = some (f a) := by
  cases b <;> cases ys <;> simp_all [allR]
theorem allR_no {α : Type} {a : α} {ys : List Int} {b : Bool} {f : α → Rc} (h : (!b && ys.isEmpty) = false) : allR (a, ys, b) f = none := by
  cases b <;> cases ys <;> simp_all [allR]
/-- Two cells of a core are stored. -/
theorem CsAt.put2 {base : Nat} {w : World} {g cap : Nat} {l : List CoX} (h : CsAt base w (.slice (some ⟨g, 0, none⟩) l.length cap) l) {n : Nat} (hn : n < l.length) (i j : Nat) (hi : i < 45) (hj : j < 45) (y z : CoX) (u v : Value) (hy : y.v = l[n].v.set i u) (hz : z.v = y.v.set j v) (ey : CoOwn base w y) (ez : CoOwn base (w.setCell ⟨g, n * 45 + i, none⟩ u) z) :
    CsAt base ((w.setCell ⟨g, n * 45 + i, none⟩ u).setCell ⟨g, n * 45 + j, none⟩ v) (.slice (some ⟨g, 0, none⟩) (l.set n z).length cap) (l.set n z) ∧ Below base w ((w.setCell ⟨g, n * 45 + i, none⟩ u).setCell ⟨g, n * 45 + j, none⟩ v) := by
  obtain ⟨h1, b1⟩ := h.put hn i hi y u hy ey
  have hn2 : n < (l.set n y).length := by simpa using hn
  obtain ⟨h2, b2⟩ := h1.put hn2 j hj z v (by rw [hz]; simp) ez
  rw [List.set_set] at h2
  exact ⟨h2, b1.trans (b2.mono (Nat.le_refl _))⟩
set_option maxRecDepth 100000 in
set_option maxHeartbeats 16000000 in
theorem says_none (a : Int) (h72 : a ≠ 72) (h83 : a ≠ 83) (h69 : a ≠ 69) (h88 : a ≠ 88) (B G R n cap : Nat) (l : List CoX) (x : CoX) (xs : List Int) (w : World) (_hl : CsAt B w (.slice (some ⟨G, 0, none⟩) l.length cap) l) (_hn : n < l.length) (_hx : l[n] = x) (_hf : LgFit x.c.l) (_hr : HrW B w R xs false) :
    Calls Try.prog 31 #[.pointer (some ⟨G, n * 45, none⟩), .int .u8 a, .pointer (some ⟨R, 0, none⟩)] w (SayE B G cap l n x w (sayB a xs)) := by
  have h1 : (a == 72) = false := by simpa using h72
  have h2 : (a == 83) = false := by simpa using h83
  have h3 : (a == 69) = false := by simpa using h69
  have h4 : (a == 88) = false := by simpa using h88
  have HS : Hid (sayB a xs = none) := by show _ = _; unfold sayB; rw [if_neg h72, if_neg h83, if_neg h69, if_neg h88]
  clear h72 h83 h69 h88
  go_enter Try.func31, Try.ntmps31
  go_wp2_with fail
  go_ret
  rw [HS.out]
  exact ⟨rfl, Below.refl _ _, fun rc h => by cases h⟩
theorem own_neG {base : Nat} {w : World} {g n cap : Nat} {l : List CoX} {x : CoX} (h : CsAt base w (.slice (some ⟨g, 0, none⟩) n cap) l) (hx : CoOwn base w x) : (Value.slice x.p x.c.l.es.length x.k).ownBlock = none ∨ (Value.slice x.p x.c.l.es.length x.k).ownBlock ≠ some g := by
  rcases h.own.2 with ⟨h', _⟩ | ⟨g', cap', cur, h', _, hg, _⟩
  · simp at h'
  · simp only [Value.slice.injEq, Option.some.injEq, Addr.mk.injEq, and_true] at h'
    obtain ⟨rfl, -⟩ := h'
    exact own_other hx hg (by decide)
set_option maxRecDepth 100000 in
set_option maxHeartbeats 16000000 in
theorem says_H (B G R n cap : Nat) (l : List CoX) (x : CoX) (xs : List Int) (w : World) (hl : CsAt B w (.slice (some ⟨G, 0, none⟩) l.length cap) l) (hn : n < l.length) (hx : l[n] = x) (hf : LgFit x.c.l) (hr : HrW B w R xs false) :
    Calls Try.prog 31 #[.pointer (some ⟨G, n * 45, none⟩), .int .u8 72, .pointer (some ⟨R, 0, none⟩)] w (SayE B G cap l n x w (sayB 72 xs)) := by
  obtain ⟨⟨v1, ys1, b1⟩, e1⟩ : ∃ r, hrC xs false = r := ⟨_, rfl⟩
  obtain ⟨⟨v2, ys2, b2⟩, e2⟩ : ∃ r, hrC ys1 b1 = r := ⟨_, rfl⟩
  have HS : Hid (sayB 72 xs = allR ((v1, v2), ys2, b2) fun p => .hd p.1 p.2) := by show _ = _; unfold sayB hdB rd2; rw [if_pos rfl]; simp only [e1, e2]
  have E1 := Lib.hid e1
  have E2 := Lib.hid e2
  clear e1 e2
  have HL0 := Lib.hid hl; have HR0 := Lib.hid hr; have HX := Lib.hid hx; have HF := Lib.hid hf; have HB0 := Lib.hid (show Below B w w from Below.refl B w); have HBR := Lib.hid (hr.r.1)
  have HBS := Lib.hid (Nat.le_of_lt (Nat.lt_of_le_of_lt hr.r.1 hr.lt))
  clear hl hr hx hf
  go_enter Try.func31, Try.ntmps31
  have HC1 := Lib.hid (hrcount_any B R xs false w HR0.out)
  rw [E1.out] at HC1
  go_wp2_with fail
  refine HC1.out.mono ?_; rintro e w1 ⟨rfl, h1, g1⟩
  dsimp only at h1 ⊢
  have HL1 := Lib.hid (HL0.out.rd HR0.out g1); have HB1 := Lib.hid (HB0.out.grown g1 (Nat.le_trans HBS.out HB0.out.size) (fun k e => by cases e; exact HBR.out)); have HR1 := Lib.hid h1
  clear h1 g1 HC1
  have HC2 := Lib.hid (hrcount_any B R ys1 b1 w1 HR1.out)
  rw [E2.out] at HC2
  go_wp2_with fail
  refine HC2.out.mono ?_; rintro e w2 ⟨rfl, h2, g2⟩
  dsimp only at h2 ⊢
  have HL2 := Lib.hid (HL1.out.rd HR1.out g2); have HB2 := Lib.hid (HB1.out.grown g2 (Nat.le_trans HBS.out HB1.out.size) (fun k e => by cases e; exact HBR.out)); have HR2 := Lib.hid h2
  clear h2 g2 HC2
  have HE := Lib.hid (hrends_any B R ys2 b2 w2 HR2.out)
  by_cases hE : (!b2 && ys2.isEmpty) = true
  · rw [hE] at HE
    rw [allR_yes hE] at HS
    have HSS := Lib.hid HS.out
    clear hE HS
    go_wp2_with fail
    refine HE.out.mono ?_; rintro e w' ⟨rfl, rfl⟩
    clear HE
    have k2 : w2.cell? ⟨G, n * 45 + 2, none⟩ = some (.int .i64 x.c.tm) := by rw [HL2.out.cell hn 2 (by decide), HX.out]; rfl
    have k3 : w2.cell? ⟨G, n * 45 + 3, none⟩ = some (.int .i64 x.c.vt) := by rw [HL2.out.cell hn 3 (by decide), HX.out]; rfl
    have fG := HL2.out.free
    go_wp2_with fail
    go_ret
    rw [HSS.out]
    have hxo : CoOwn B w2 x := HX.out ▸ HL2.out.en _ (List.getElem_mem hn)
    have hp := HL2.out.put2 hn 2 3 (by decide) (by decide) ⟨{ x.c with tm := v1 }, x.p, x.k⟩ ⟨{ x.c with tm := v1, vt := v2 }, x.p, x.k⟩ (.int .i64 v1) (.int .i64 v2) (by rw [HX.out]; rfl) rfl hxo (hxo.kept (grown_setW _ _ _ _) (own_neG HL2.out hxo))
    exact ⟨rfl, HB2.out.trans hp.2, fun rc h => by cases h; exact ⟨_, rfl, hp.1⟩⟩
  · have hE2 : (!b2 && ys2.isEmpty) = false := by simpa using hE
    rw [hE2] at HE
    rw [allR_no hE2] at HS
    have HSS := Lib.hid HS.out
    clear hE hE2 HS
    go_wp2_with fail
    refine HE.out.mono ?_; rintro e w' ⟨rfl, rfl⟩
    clear HE
    go_wp2_with fail
    go_ret
    rw [HSS.out]
    exact ⟨rfl, HB2.out, fun rc h => by cases h⟩
set_option maxRecDepth 100000 in
set_option maxHeartbeats 16000000 in
theorem says_X (B G R n cap : Nat) (l : List CoX) (x : CoX) (xs : List Int) (w : World) (hl : CsAt B w (.slice (some ⟨G, 0, none⟩) l.length cap) l) (hn : n < l.length) (hx : l[n] = x) (hf : LgFit x.c.l) (hr : HrW B w R xs false) :
    Calls Try.prog 31 #[.pointer (some ⟨G, n * 45, none⟩), .int .u8 88, .pointer (some ⟨R, 0, none⟩)] w (SayE B G cap l n x w (sayB 88 xs)) := by
  obtain ⟨⟨v1, ys1, b1⟩, e1⟩ : ∃ r, hrC xs false = r := ⟨_, rfl⟩
  have HS : Hid (sayB 88 xs = allR (v1, ys1, b1) fun p => .ct p) := by show _ = _; unfold sayB; rw [if_neg (by decide), if_neg (by decide), if_neg (by decide), if_pos rfl, e1]
  have HV := Lib.hid (show b1 = false → CnV v1 from fun h => (hrC_ok.sound xs v1 ys1 hr.o (by rw [e1, h])).1)
  have E1 := Lib.hid e1
  clear e1
  have HL0 := Lib.hid hl; have HR0 := Lib.hid hr; have HX := Lib.hid hx; have HF := Lib.hid hf; have HB0 := Lib.hid (show Below B w w from Below.refl B w); have HBR := Lib.hid (hr.r.1)
  have HBS := Lib.hid (Nat.le_of_lt (Nat.lt_of_le_of_lt hr.r.1 hr.lt))
  clear hl hr hx hf
  go_enter Try.func31, Try.ntmps31
  have HC1 := Lib.hid (hrcount_any B R xs false w HR0.out)
  rw [E1.out] at HC1
  go_wp2_with fail
  refine HC1.out.mono ?_; rintro e w1 ⟨rfl, h1, g1⟩
  dsimp only at h1 ⊢
  have HL1 := Lib.hid (HL0.out.rd HR0.out g1); have HB1 := Lib.hid (HB0.out.grown g1 (Nat.le_trans HBS.out HB0.out.size) (fun k e => by cases e; exact HBR.out)); have HR1 := Lib.hid h1
  clear h1 g1 HC1
  have HE := Lib.hid (hrends_any B R ys1 b1 w1 HR1.out)
  by_cases hE : (!b1 && ys1.isEmpty) = true
  · rw [hE] at HE
    have hb : b1 = false := by cases b1 <;> simp_all
    rw [allR_yes hE] at HS
    have HSS := Lib.hid HS.out
    clear hE HS
    go_wp2_with fail
    refine HE.out.mono ?_; rintro e w' ⟨rfl, rfl⟩
    clear HE
    have k8 : w1.cell? ⟨G, n * 45 + 8, none⟩ = some (.int .i64 x.c.l.b) := by rw [HL1.out.cell hn 8 (by decide), HX.out]; rfl
    have k9 : w1.cell? ⟨G, n * 45 + 9, none⟩ = some (.int .i64 x.c.l.bt) := by rw [HL1.out.cell hn 9 (by decide), HX.out]; rfl
    have k10 : w1.cell? ⟨G, n * 45 + 10, none⟩ = some (.int .u16 x.c.l.j.ov) := by rw [HL1.out.cell hn 10 (by decide), HX.out]; rfl
    have k11 : w1.cell? ⟨G, n * 45 + 11, none⟩ = some (.int .u16 x.c.l.j.ox) := by rw [HL1.out.cell hn 11 (by decide), HX.out]; rfl
    have k12 : w1.cell? ⟨G, n * 45 + 12, none⟩ = some (.int .u16 x.c.l.j.ol) := by rw [HL1.out.cell hn 12 (by decide), HX.out]; rfl
    have k13 : w1.cell? ⟨G, n * 45 + 13, none⟩ = some (.int .i64 x.c.l.j.oe) := by rw [HL1.out.cell hn 13 (by decide), HX.out]; rfl
    have k14 : w1.cell? ⟨G, n * 45 + 14, none⟩ = some (.int .i64 x.c.l.j.ok) := by rw [HL1.out.cell hn 14 (by decide), HX.out]; rfl
    have k15 : w1.cell? ⟨G, n * 45 + 15, none⟩ = some (.int .u16 x.c.l.j.nv) := by rw [HL1.out.cell hn 15 (by decide), HX.out]; rfl
    have k16 : w1.cell? ⟨G, n * 45 + 16, none⟩ = some (.int .u16 x.c.l.j.nx) := by rw [HL1.out.cell hn 16 (by decide), HX.out]; rfl
    have k17 : w1.cell? ⟨G, n * 45 + 17, none⟩ = some (.int .u16 x.c.l.j.nl) := by rw [HL1.out.cell hn 17 (by decide), HX.out]; rfl
    have k18 : w1.cell? ⟨G, n * 45 + 18, none⟩ = some (.int .i64 x.c.l.j.ne) := by rw [HL1.out.cell hn 18 (by decide), HX.out]; rfl
    have k19 : w1.cell? ⟨G, n * 45 + 19, none⟩ = some (.int .i64 x.c.l.j.nk) := by rw [HL1.out.cell hn 19 (by decide), HX.out]; rfl
    have k20 : w1.cell? ⟨G, n * 45 + 20, none⟩ = some (.bool x.c.l.j.two) := by rw [HL1.out.cell hn 20 (by decide), HX.out]; rfl
    have k21 : w1.cell? ⟨G, n * 45 + 21, none⟩ = some (.slice x.p x.c.l.es.length x.k) := by rw [HL1.out.cell hn 21 (by decide), HX.out]; rfl
    have fG := HL1.out.free
    have hv := HV.out hb
    have hv1 := hv.1; have hv2 := hv.2
    have hb0 := HF.out.b0; have hb1 := HF.out.b1
    have hE1 := EnSl.of_own (HX.out ▸ HL1.out.en _ (List.getElem_mem hn))
    clear hv hb
    by_cases hg : x.c.l.b < v1
    · have hd : decide (x.c.l.b < v1) = true := by simpa using hg
      have hw1 : wrap64 (v1 - x.c.l.b) = v1 - x.c.l.b := by unfold wrap64; omega
      have HC := Lib.hid (slice_any x.c.l x.p x.k 0 (v1 - x.c.l.b) w1 hb0 hb1 HF.out.n (by omega) (by omega) hE1)
      clear hE1
      go_wp2_with fail
      refine HC.out.mono ?_; rintro e w8 ⟨v, rfl, ho, hb⟩
      have hes : sliceL x.c.l 0 (v1 - x.c.l.b) = x.c.l.es.take (v1 - x.c.l.b).toNat := by unfold sliceL fromK; rw [if_neg (by omega), List.drop_zero]
      rw [hes] at ho
      clear hes HC k8 k9 k10 k11 k12 k13 k14 k15 k16 k17 k18 k19 k20 k21 fG
      obtain ⟨q, cq, rfl⟩ := own_slice ho
      have HL8 := Lib.hid (HL1.out.keep hb)
      have kE : w8.cell? ⟨G, n * 45 + 21, none⟩ = some (.slice x.p x.c.l.es.length x.k) := by rw [HL8.out.cell hn 21 (by decide), HX.out]; rfl
      have fE := HL8.out.free
      have HB8 := Lib.hid (HB1.out.trans (hb.mono (Nat.le_trans HBS.out HB1.out.size)))
      have HO8 := Lib.hid (ho.mono (Nat.le_trans HBS.out HB1.out.size))
      clear ho hb
      go_wp2_with fail
      go_ret
      rw [HSS.out]
      have hp := HL8.out.put hn 21 (by decide) ⟨{ x.c with l := { x.c.l with es := x.c.l.es.take (v1 - x.c.l.b).toNat } }, q, cq⟩ (.slice q (min (v1 - x.c.l.b).toNat x.c.l.es.length) cq) (by rw [HX.out, ← List.length_take]; rfl) HO8.out
      exact ⟨rfl, HB8.out.trans hp.2, fun rc h => by cases h; exact ⟨_, by rfl, hp.1⟩⟩
    · have hd : decide (x.c.l.b < v1) = false := by simpa using hg
      have HC := Lib.hid (slice_any x.c.l x.p x.k 0 (0) w1 hb0 hb1 HF.out.n (by omega) (by omega) hE1)
      clear hE1
      go_wp2_with fail
      refine HC.out.mono ?_; rintro e w8 ⟨v, rfl, ho, hb⟩
      have hes : sliceL x.c.l 0 (0) = x.c.l.es.take (v1 - x.c.l.b).toNat := by unfold sliceL fromK; rw [if_neg (by omega), List.drop_zero]; congr 1; omega
      rw [hes] at ho
      clear hes HC k8 k9 k10 k11 k12 k13 k14 k15 k16 k17 k18 k19 k20 k21 fG
      obtain ⟨q, cq, rfl⟩ := own_slice ho
      have HL8 := Lib.hid (HL1.out.keep hb)
      have kE : w8.cell? ⟨G, n * 45 + 21, none⟩ = some (.slice x.p x.c.l.es.length x.k) := by rw [HL8.out.cell hn 21 (by decide), HX.out]; rfl
      have fE := HL8.out.free
      have HB8 := Lib.hid (HB1.out.trans (hb.mono (Nat.le_trans HBS.out HB1.out.size)))
      have HO8 := Lib.hid (ho.mono (Nat.le_trans HBS.out HB1.out.size))
      clear ho hb
      go_wp2_with fail
      go_ret
      rw [HSS.out]
      have hp := HL8.out.put hn 21 (by decide) ⟨{ x.c with l := { x.c.l with es := x.c.l.es.take (v1 - x.c.l.b).toNat } }, q, cq⟩ (.slice q (min (v1 - x.c.l.b).toNat x.c.l.es.length) cq) (by rw [HX.out, ← List.length_take]; rfl) HO8.out
      exact ⟨rfl, HB8.out.trans hp.2, fun rc h => by cases h; exact ⟨_, by rfl, hp.1⟩⟩
  · have hE2 : (!b1 && ys1.isEmpty) = false := by simpa using hE
    rw [hE2] at HE
    rw [allR_no hE2] at HS
    have HSS := Lib.hid HS.out
    clear hE hE2 HS
    go_wp2_with fail
    refine HE.out.mono ?_; rintro e w' ⟨rfl, rfl⟩
    clear HE
    go_wp2_with fail
    go_ret
    rw [HSS.out]
    exact ⟨rfl, HB1.out, fun rc h => by cases h⟩
end Go.Proofs.Ytjaabakobpabjaa
