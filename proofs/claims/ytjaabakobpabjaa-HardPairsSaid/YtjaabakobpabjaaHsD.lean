/- Hard: what a record says to a core: letter E. -/
import Derived.Test.YtjaabakobpabjaaHsB
import Derived.Test.YtjaabakobpabjaaHardB
import Derived.Test.YtjaabakobpabjaaLogG
namespace Go.Proofs.Ytjaabakobpabjaa
open Go.ChangeShapes Go.WideShapes Go.ChangeAt Go.RowKit

/-- In the midst of an entry's record: the cores, the entry's block. -/
structure TrE (B G cap X : Nat) (l : List CoX) (ev : Array Value) (w0 w : World) : Prop where
  b : Below B w0 w
  l : CsAt B w (.slice (some ⟨G, 0, none⟩) l.length cap) l
  x : w.heap[X]? = some (.cells ev 85 (0, 0))
theorem TrE.keep {B G cap X : Nat} {l : List CoX} {ev : Array Value} {w0 w w' : World} (h : TrE B G cap X l ev w0 w) (hb : Below w.heap.size w w') : TrE B G cap X l ev w0 w' :=
  ⟨h.b.trans (hb.mono (Nat.le_of_lt (Nat.lt_of_le_of_lt h.l.lt.1 h.l.lt.2))), h.l.keep hb, below_block hb (block_lt h.x) h.x⟩
theorem coL_log (x : CoX) (j : Nat) (hj : j < 14) : x.v[8 + j]? = [.int .i64 x.c.l.b, .int .i64 x.c.l.bt, .int .u16 x.c.l.j.ov, .int .u16 x.c.l.j.ox, .int .u16 x.c.l.j.ol, .int .i64 x.c.l.j.oe, .int .i64 x.c.l.j.ok, .int .u16 x.c.l.j.nv, .int .u16 x.c.l.j.nx, .int .u16 x.c.l.j.nl, .int .i64 x.c.l.j.ne, .int .i64 x.c.l.j.nk, .bool x.c.l.j.two, .slice x.p x.c.l.es.length x.k][j]? := by
  have h : x.v.drop 8 = [.int .i64 x.c.l.b, .int .i64 x.c.l.bt, .int .u16 x.c.l.j.ov, .int .u16 x.c.l.j.ox, .int .u16 x.c.l.j.ol, .int .i64 x.c.l.j.oe, .int .i64 x.c.l.j.ok, .int .u16 x.c.l.j.nv, .int .u16 x.c.l.j.nx, .int .u16 x.c.l.j.nl, .int .i64 x.c.l.j.ne, .int .i64 x.c.l.j.nk, .bool x.c.l.j.two, .slice x.p x.c.l.es.length x.k] ++ x.v.drop 22 := rfl
  have h2 : (x.v.drop 8)[j]? = x.v[8 + j]? := by rw [List.getElem?_drop]
  rw [← h2, h, List.getElem?_append_left hj]
theorem apRc_yes {c : Co} {i : Int} {e : Ent} (h : c.l.b < i ∧ i ≤ c.l.last + 1) : apRc c (.en i e) = { c with l := { c.l with es := c.l.es.take (i - c.l.b - 1).toNat ++ [e] } } := if_pos h
theorem apRc_no {c : Co} {i : Int} {e : Ent} (h : ¬ (c.l.b < i ∧ i ≤ c.l.last + 1)) : apRc c (.en i e) = c := if_neg h
def SE (G n X : Nat) (b : Int) (ev : Array Value) (w : World) : Prop := w.cell? ⟨G, n * 45 + 8, none⟩ = some (.int .i64 b) ∧ ∀ j, w.cell? ⟨X, j, none⟩ = ev[j]?
theorem TrE.s {B G cap X n : Nat} {l : List CoX} {ev : Array Value} {w0 w : World} {x : CoX} (h : TrE B G cap X l ev w0 w) (hn : n < l.length) (hx : l[n] = x) : SE G n X x.c.l.b ev w :=
  ⟨by rw [h.l.cell hn 8 (by decide), hx]; rfl, block_cells h.x⟩
theorem TrE.sp {B G cap X n : Nat} {l : List CoX} {ev : Array Value} {w0 w : World} {x : CoX} (h : TrE B G cap X l ev w0 w) (hn : n < l.length) (hx : l[n] = x) (u : Value) : SE G n X x.c.l.b ev (w.setCell ⟨G, n * 45 + 21, none⟩ u) := by
  have hX : X ≠ G := fun e => by
    obtain ⟨cur, hq⟩ := h.l.block
    have := h.x
    rw [e, hq] at this
    simp only [Option.some.injEq, Obj.cells.injEq] at this
    exact absurd this.2.1 (by decide)
  refine ⟨?_, ?_⟩
  · rw [World.cell?_setCell_other _ _ _ _ (by intro e; simp at e)]; exact (h.s hn hx).1
  · exact block_cells ((Below.heap_setCell _ _ _ _ (by show X ≠ G; exact hX)).trans h.x)
theorem CsAt.far {base : Nat} {w w' : World} {g cap n X : Nat} {l : List CoX} (h : CsAt base w (.slice (some ⟨g, 0, none⟩) n cap) l) (hg : w.grownBy w' (some X)) (hX : g ≠ X) (hn : ∀ y ∈ l, (Value.slice y.p y.c.l.es.length y.k).ownBlock = none ∨ (Value.slice y.p y.c.l.es.length y.k).ownBlock ≠ some X) : CsAt base w' (.slice (some ⟨g, 0, none⟩) n cap) l :=
  ⟨h.own.kept hg (.inr (by simpa [Value.ownBlock] using hX)), fun y hy => (h.en y hy).kept hg (hn y hy)⟩
structure TrO (B X : Nat) (l : List CoX) (w : World) (v : Value) (L : List Ent) : Prop where
  own : w.ownsRow B 85 14 v L.length (entRow L)
  gt : ∀ b, v.ownBlock = some b → X < b
  ap : ∀ y ∈ l, (Value.slice y.p y.c.l.es.length y.k).ownBlock = none ∨ (Value.slice y.p y.c.l.es.length y.k).ownBlock ≠ v.ownBlock
theorem TrO.keep {B X : Nat} {l : List CoX} {w w' : World} {v : Value} {L : List Ent} (h : TrO B X l w v L) (hb : Below w.heap.size w w') : TrO B X l w' v L := ⟨own_keptC h.own hb, h.gt, h.ap⟩
theorem TrE.new {B G cap X : Nat} {l : List CoX} {ev : Array Value} {w0 w w' : World} {v : Value} {L : List Ent} (h : TrE B G cap X l ev w0 w) (ho : w'.ownsRow w.heap.size 85 14 v L.length (entRow L)) (_hb : Below w.heap.size w w') : TrO B X l w' v L :=
  ⟨ho.mono (Nat.le_of_lt (Nat.lt_of_le_of_lt h.l.lt.1 h.l.lt.2)), fun b hbb => Nat.lt_of_lt_of_le (block_lt h.x) (ho.lt b hbb).1, fun y hy => by
    cases e : (Value.slice y.p y.c.l.es.length y.k).ownBlock with
    | none => exact .inl rfl
    | some b => exact .inr fun h2 => by have := ((h.l.en y hy).lt b e).2; have := (ho.lt b h2.symm).1; omega⟩
theorem TrE.app {B G cap X : Nat} {l : List CoX} {ev : Array Value} {w0 w w' : World} {v : Value} {L : List Ent} (h : TrE B G cap X l ev w0 w) (ho : TrO B X l w v L) (hg : w.grownBy w' v.ownBlock) : TrE B G cap X l ev w0 w' :=
  ⟨h.b.grown hg (Nat.le_of_lt (Nat.lt_of_le_of_lt h.l.lt.1 h.l.lt.2)) (fun k hk => (ho.own.lt k hk).1), ⟨h.l.own.kept hg (own_apartH h.l.own ho.own (by decide)), fun y hy => (h.l.en y hy).kept hg (ho.ap y hy)⟩,
    (hg.block X (block_lt h.x) (fun e => by have := ho.gt X e.symm; omega)).trans h.x⟩
set_option maxRecDepth 100000 in
set_option maxHeartbeats 16000000 in
theorem says_E0 (B G R n cap : Nat) (l : List CoX) (x : CoX) (xs : List Int) (w : World) (hl : CsAt B w (.slice (some ⟨G, 0, none⟩) l.length cap) l) (hn : n < l.length) (hx : l[n] = x) (hf : LgFit x.c.l) (hr : HrW B w R xs false) (hk : (rd2 hrC (rd2 hrC (rd2 rdNw rdTw)) xs false).1.2.2.1 ≠ 2) :
    Calls Try.prog 31 #[.pointer (some ⟨G, n * 45, none⟩), .int .u8 69, .pointer (some ⟨R, 0, none⟩)] w (SayE B G cap l n x w (sayB 69 xs)) := by
  obtain ⟨⟨v1, ys1, b1⟩, e1⟩ : ∃ r, hrC xs false = r := ⟨_, rfl⟩
  obtain ⟨⟨v2, ys2, b2⟩, e2⟩ : ∃ r, hrC ys1 b1 = r := ⟨_, rfl⟩
  obtain ⟨⟨v3, ys3, b3⟩, e3⟩ : ∃ r, rdNw ys2 b2 = r := ⟨_, rfl⟩
  obtain ⟨⟨v4, ys4, b4⟩, e4⟩ : ∃ r, rdTw ys3 b3 = r := ⟨_, rfl⟩
  have hf4 : rd2 hrC (rd2 hrC (rd2 rdNw rdTw)) xs false = ((v1, v2, v3, v4), ys4, b4) := by unfold rd2; simp only [e1, e2, e3, e4]
  have hk3 : v3 ≠ 2 := by have h := hk; rw [hf4] at h; exact h
  have hen : enB xs false = (((v1, v2, v3, v4), jo0), ys4, b4) := by unfold enB rdIf; simp only [hf4, decide_eq_false hk3, Bool.false_eq_true, if_false]
  have HS : Hid (sayB 69 xs = allR (((v1, v2, v3, v4), jo0), ys4, b4) fun p => .en p.1.1 (enE p)) := by show _ = _; unfold sayB; rw [if_neg (by decide), if_neg (by decide), if_pos rfl, hen]
  have HV := Lib.hid (show b4 = false → CnV v1 from fun h => ((rdIf_ok (rd2_ok hrC_ok (rd2_ok hrC_ok (rd2_ok rdNw_ok rdTw_ok))) hrJ_ok (fun p => decide (p.2.2.1 = 2)) jo0).sound xs ((v1, v2, v3, v4), jo0) ys4 hr.o (by have h2 := hen; rw [h] at h2; exact h2)).1.1.1)
  clear hf4 hen hk
  have E1 := Lib.hid e1
  have E2 := Lib.hid e2
  have E3 := Lib.hid e3
  have E4 := Lib.hid e4
  clear e1 e2 e3 e4
  have HL0 := Lib.hid hl; have HR0 := Lib.hid hr; have HX := Lib.hid hx; have HF := Lib.hid hf; have HB0 := Lib.hid (show Below B w w from Below.refl B w); have HBR := Lib.hid (hr.r.1)
  have HBS := Lib.hid (Nat.le_of_lt (Nat.lt_of_le_of_lt hr.r.1 hr.lt))
  clear hl hr hx hf
  go_enter Try.func31, Try.ntmps31
  have HC1 := Lib.hid (hrcount_any B R xs false w HR0.out)
  rw [E1.out] at HC1
  go_wp2_with fail
  refine HC1.out.mono ?_; rintro e w1 ⟨rfl, h1, g1⟩
  dsimp only at h1 ⊢
  have HL1 := Lib.hid (HL0.out.rd HR0.out g1); have HB1 := Lib.hid (HB0.out.grown g1 (Nat.le_trans HBS.out HB0.out.size) (fun k e => by cases e; exact HBR.out)); have HR1 := Lib.hid h1
  clear h1 g1 HC1
  have HC2 := Lib.hid (hrcount_any B R ys1 b1 w1 HR1.out)
  rw [E2.out] at HC2
  go_wp2_with fail
  refine HC2.out.mono ?_; rintro e w2 ⟨rfl, h2, g2⟩
  dsimp only at h2 ⊢
  have HL2 := Lib.hid (HL1.out.rd HR1.out g2); have HB2 := Lib.hid (HB1.out.grown g2 (Nat.le_trans HBS.out HB1.out.size) (fun k e => by cases e; exact HBR.out)); have HR2 := Lib.hid h2
  clear h2 g2 HC2
  have HC3 := Lib.hid (hrnum_any B R ys2 b2 w2 HR2.out)
  rw [E3.out] at HC3
  go_wp2_with fail
  refine HC3.out.mono ?_; rintro e w3 ⟨rfl, h3, g3⟩
  dsimp only at h3 ⊢
  have HL3 := Lib.hid (HL2.out.rd HR2.out g3); have HB3 := Lib.hid (HB2.out.grown g3 (Nat.le_trans HBS.out HB2.out.size) (fun k e => by cases e; exact HBR.out)); have HR3 := Lib.hid h3
  clear h3 g3 HC3
  have HC4 := Lib.hid (hrtext_any B R ys3 b3 w3 HR3.out)
  rw [E4.out] at HC4
  go_wp2_with fail
  refine HC4.out.mono ?_; rintro e w4 ⟨rfl, h4, g4⟩
  dsimp only at h4 ⊢
  have HL4 := Lib.hid (HL3.out.rd HR3.out g4); have HB4 := Lib.hid (HB3.out.grown g4 (Nat.le_trans HBS.out HB3.out.size) (fun k e => by cases e; exact HBR.out)); have HR4 := Lib.hid h4
  clear h4 g4 HC4
  go_upto_region 19 with fail
  obtain ⟨V, hV⟩ : ∃ z : World, w4.alloc (.cells #[.int .i64 v2, .int .i64 v3, .string v4, .int .u16 0, .int .u16 0, .int .u16 0, .int .i64 0, .int .i64 0, .int .u16 0, .int .u16 0, .int .u16 0, .int .i64 0, .int .i64 0, .bool false] 85) = z := ⟨_, rfl⟩
  have bV : Below w4.heap.size w4 V := by rw [← hV]; exact (Below.refl _ _).alloc (Nat.le_refl _) _
  have hXB : V.heap[w4.heap.size]? = some (.cells #[.int .i64 v2, .int .i64 v3, .string v4, .int .u16 0, .int .u16 0, .int .u16 0, .int .i64 0, .int .i64 0, .int .u16 0, .int .u16 0, .int .u16 0, .int .i64 0, .int .i64 0, .bool false] 85 (0, 0)) := by rw [← hV]; exact heap_last w4 _
  (try rw [hV])
  obtain ⟨X, eX⟩ : ∃ z, w4.heap.size = z := ⟨_, rfl⟩
  have hXR : R < X := by have := HR4.out.lt; omega
  have hXge := Lib.hid (show B ≤ X by have := HBS.out; have := HB4.out.size; omega)
  (try rw [eX])
  rw [eX] at hXB
  have HNX := Lib.hid (show ∀ y ∈ l, (Value.slice y.p y.c.l.es.length y.k).ownBlock = none ∨ (Value.slice y.p y.c.l.es.length y.k).ownBlock ≠ some X from fun y hy => by
    cases e9 : (Value.slice y.p y.c.l.es.length y.k).ownBlock with
    | none => exact .inl rfl
    | some b => exact .inr fun h => by have := ((HL4.out.en y hy).lt b e9).2; simp only [Option.some.injEq] at h; omega)
  have hGX : G ≠ X := by have := HL4.out.lt.2; omega
  have HLV := Lib.hid (HL4.out.keep bV); have HRV := Lib.hid (HR4.out.keep bV (Nat.le_refl _)); have HBV := Lib.hid (HB4.out.trans (bV.mono (Nat.le_trans HBS.out HB4.out.size)))
  have HXB := Lib.hid hXB
  clear hV bV hXB eX
  have kX := block_cells HXB.out
  have hd3 : (v3 == 2) = false := by simpa using hk3
  go_upto_region 21 with fail
  obtain ⟨V7, rfl⟩ : ∃ z : World, z = V := ⟨_, rfl⟩
  have HX7 := HXB; have HR7 := HRV; have HB7 := HBV; have HL7 := HLV
  clear kX HXB HRV HBV HLV hd3
  have HE := Lib.hid (hrends_any B R ys4 b4 V7 HR7.out)
  by_cases hE : (!b4 && ys4.isEmpty) = true
  · have hb : b4 = false := by cases b4 <;> simp_all
    rw [hE] at HE
    rw [allR_yes hE] at HS
    have HSS := Lib.hid HS.out
    clear hE HS
    go_wp2_with fail
    refine HE.out.mono ?_; rintro e w' ⟨rfl, rfl⟩
    clear HE
    have hv := HV.out hb
    have hv1 := hv.1; have hv2 := hv.2
    have hb0 := HF.out.b0; have hb1 := HF.out.b1; have hfn := HF.out.n
    have hll : x.c.l.last = x.c.l.b + x.c.l.es.length := rfl
    have hwl : wrap64 (x.c.l.last + 1) = x.c.l.last + 1 := by unfold wrap64; omega
    have HSELF : Hid (l.set n x = l) := by show _ = _; rw [← HX.out]; exact List.set_getElem_self _
    have HXE : Hid (enE (((v1, v2, v3, v4), jo0)) = ⟨v2, v3, v4, jn0⟩) := rfl
    have HLA := Lib.hid (last_any x.c.l x.p x.k V7 hb0 hb1 hfn)
    have HLL := Lib.hid hll
    clear hv hb hll
    have k8 : V7.cell? ⟨G, n * 45 + 8, none⟩ = some (.int .i64 x.c.l.b) := by rw [HL7.out.cell hn 8 (by decide), HX.out]; rfl
    have k9 : V7.cell? ⟨G, n * 45 + 9, none⟩ = some (.int .i64 x.c.l.bt) := by rw [HL7.out.cell hn 9 (by decide), HX.out]; rfl
    have k10 : V7.cell? ⟨G, n * 45 + 10, none⟩ = some (.int .u16 x.c.l.j.ov) := by rw [HL7.out.cell hn 10 (by decide), HX.out]; rfl
    have k11 : V7.cell? ⟨G, n * 45 + 11, none⟩ = some (.int .u16 x.c.l.j.ox) := by rw [HL7.out.cell hn 11 (by decide), HX.out]; rfl
    have k12 : V7.cell? ⟨G, n * 45 + 12, none⟩ = some (.int .u16 x.c.l.j.ol) := by rw [HL7.out.cell hn 12 (by decide), HX.out]; rfl
    have k13 : V7.cell? ⟨G, n * 45 + 13, none⟩ = some (.int .i64 x.c.l.j.oe) := by rw [HL7.out.cell hn 13 (by decide), HX.out]; rfl
    have k14 : V7.cell? ⟨G, n * 45 + 14, none⟩ = some (.int .i64 x.c.l.j.ok) := by rw [HL7.out.cell hn 14 (by decide), HX.out]; rfl
    have k15 : V7.cell? ⟨G, n * 45 + 15, none⟩ = some (.int .u16 x.c.l.j.nv) := by rw [HL7.out.cell hn 15 (by decide), HX.out]; rfl
    have k16 : V7.cell? ⟨G, n * 45 + 16, none⟩ = some (.int .u16 x.c.l.j.nx) := by rw [HL7.out.cell hn 16 (by decide), HX.out]; rfl
    have k17 : V7.cell? ⟨G, n * 45 + 17, none⟩ = some (.int .u16 x.c.l.j.nl) := by rw [HL7.out.cell hn 17 (by decide), HX.out]; rfl
    have k18 : V7.cell? ⟨G, n * 45 + 18, none⟩ = some (.int .i64 x.c.l.j.ne) := by rw [HL7.out.cell hn 18 (by decide), HX.out]; rfl
    have k19 : V7.cell? ⟨G, n * 45 + 19, none⟩ = some (.int .i64 x.c.l.j.nk) := by rw [HL7.out.cell hn 19 (by decide), HX.out]; rfl
    have k20 : V7.cell? ⟨G, n * 45 + 20, none⟩ = some (.bool x.c.l.j.two) := by rw [HL7.out.cell hn 20 (by decide), HX.out]; rfl
    have k21 : V7.cell? ⟨G, n * 45 + 21, none⟩ = some (.slice x.p x.c.l.es.length x.k) := by rw [HL7.out.cell hn 21 (by decide), HX.out]; rfl
    by_cases hg : x.c.l.b < v1
    · have hd : decide (x.c.l.b < v1) = true := by simpa using hg
      by_cases hle : v1 ≤ x.c.l.last + 1
      · have hd2 : decide (v1 ≤ x.c.l.last + 1) = true := by simpa using hle
        have HAY : Hid (({ x.c with l := { x.c.l with es := (x.c.l.es.take (v1 - x.c.l.b - 1).toNat) ++ ([⟨v2, v3, v4, jn0⟩] : List Ent) } } : Co) = apRc x.c (.en v1 ⟨v2, v3, v4, jn0⟩)) := (apRc_yes ⟨hg, hle⟩).symm
        have HES : Hid (sliceL x.c.l 0 (v1 - x.c.l.b - 1) = (x.c.l.es.take (v1 - x.c.l.b - 1).toNat)) := by show _ = _; unfold sliceL fromK; rw [if_neg (by omega), List.drop_zero]
        obtain ⟨mn, hmn⟩ : ∃ m, (x.c.l.es.take (v1 - x.c.l.b - 1).toNat).length = m := ⟨_, rfl⟩
        have HMN := Lib.hid hmn
        clear hmn
        have HLN : Hid (((x.c.l.es.take (v1 - x.c.l.b - 1).toNat) ++ ([⟨v2, v3, v4, jn0⟩] : List Ent)).length = mn + 1) := by show _ = _; rw [List.length_append, HMN.out]; rfl
        have HTL : Hid ((x.c.l.es.take (v1 - x.c.l.b - 1).toNat).length ≤ 1000000) := by show _ ≤ _; rw [List.length_take]; omega
        have hw1 : wrap64 (v1 - x.c.l.b) = v1 - x.c.l.b := by unfold wrap64; omega
        have hw2 : wrap64 (v1 - x.c.l.b - 1) = v1 - x.c.l.b - 1 := by unfold wrap64; omega
        have hw3 : IntKind.i64.wrap (v1 - x.c.l.b) = v1 - x.c.l.b := by rw [IntKind.wrap_i64]; omega
        have hw4 : IntKind.i64.wrap (v1 - x.c.l.b - 1) = v1 - x.c.l.b - 1 := by rw [IntKind.wrap_i64]; omega
        have HFR := Lib.hid (show -9223372036854775808 ≤ v1 - x.c.l.b - 1 ∧ v1 - x.c.l.b - 1 ≤ 9223372036854775807 by omega)
        go_wp2_with fail
        refine HLA.out.mono ?_; rintro r0 w9 ⟨rfl, hb9⟩
        have HT9 : Hid (TrE B G cap X l #[.int .i64 v2, .int .i64 v3, .string v4, .int .u16 0, .int .u16 0, .int .u16 0, .int .i64 0, .int .i64 0, .int .u16 0, .int .u16 0, .int .u16 0, .int .i64 0, .int .i64 0, .bool false] w w9) := TrE.keep ⟨HB7.out, HL7.out, HX7.out⟩ hb9
        clear k8 k9 k10 k11 k12 k13 k14 k15 k16 k17 k18 k19 k20 k21 hb9 HLA HB7 HL7 HX7 HR7
        go_upto_region 24 with fail
        have h0 : Below w9.heap.size w9 w9.drew := (Below.refl _ _).drew
        have HTD := Lib.hid (HT9.out.keep h0)
        refine wp_region_held_drew (S := fun w' => w'.cell? ⟨G, n * 45 + 8, none⟩ = some (.int .i64 x.c.l.b) ∧ ∀ j, w'.cell? ⟨X, j, none⟩ = #[.int .i64 v2, .int .i64 v3, .string v4, .int .u16 0, .int .u16 0, .int .u16 0, .int .i64 0, .int .i64 0, .int .u16 0, .int .u16 0, .int .u16 0, .int .i64 0, .int .i64 0, .bool false][j]?) (by kernel_rfl) (HTD.out.s hn HX.out) (fun hHeld => ?_)
        obtain ⟨wd, ewd⟩ : ∃ z, w9.drew = z := ⟨_, rfl⟩
        rw [ewd] at HTD hHeld ⊢
        clear ewd h0 HT9
        refine wpAnyH_take (i := 0) (v := ?_) rfl (by kernel_rfl) (by kernel_rfl) (by kernel_rfl) (fun _ _ _ h => h) (Or.inl ⟨by rfl, ?_⟩) hHeld ?_
        rotate_left
        · (intro wz hSw; (try dsimp only at hSw); (try simp only [List.getElem_toArray, List.getElem_cons_zero]); go_simp; try with_reducible rfl)
        try simp only [List.getElem_toArray, List.getElem_cons_zero, Act.put, List.setIfInBounds_toArray, List.set_cons_zero, List.set_cons_succ]
        refine wpAnyH_take (i := 1) (v := ?_) rfl (by kernel_rfl) (by kernel_rfl) (by kernel_rfl) (fun _ _ _ h => h) (Or.inl ⟨by rfl, ?_⟩) hHeld ?_
        rotate_left
        · (intro wz hSw; (try dsimp only at hSw); (try simp only [List.getElem_toArray, List.getElem_cons_succ, List.getElem_cons_zero]); go_simp; try with_reducible rfl)
        try simp only [List.getElem_toArray, List.getElem_cons_succ, List.getElem_cons_zero, Act.put, List.setIfInBounds_toArray, List.set_cons_zero, List.set_cons_succ]
        refine wpAnyH_take (i := 2) (v := ?_) rfl (by kernel_rfl) (by kernel_rfl) (by kernel_rfl) (fun _ _ _ h => h) (Or.inl ⟨by rfl, ?_⟩) hHeld ?_
        rotate_left
        · (intro wz hSw; (try dsimp only at hSw); (try simp only [List.getElem_toArray, List.getElem_cons_succ, List.getElem_cons_zero]); go_simp; try with_reducible rfl)
        try simp only [List.getElem_toArray, List.getElem_cons_succ, List.getElem_cons_zero, Act.put, List.setIfInBounds_toArray, List.set_cons_zero, List.set_cons_succ]
        refine wpAnyH_take (i := 3) (v := ?_) rfl (by kernel_rfl) (by kernel_rfl) (by kernel_rfl) (fun _ _ _ h => h) (Or.inl ⟨by rfl, ?_⟩) hHeld ?_
        rotate_left
        · (intro wz hSw; (try dsimp only at hSw); (try simp only [List.getElem_toArray, List.getElem_cons_succ, List.getElem_cons_zero]); go_simp; try with_reducible rfl)
        try simp only [List.getElem_toArray, List.getElem_cons_succ, List.getElem_cons_zero, Act.put, List.setIfInBounds_toArray, List.set_cons_zero, List.set_cons_succ]
        refine wpAnyH_take (i := 5) (v := ?_) rfl (by kernel_rfl) (by kernel_rfl) (by kernel_rfl) (fun _ _ _ h => h) (Or.inl ⟨by rfl, ?_⟩) hHeld ?_
        rotate_left
        · (intro wz hSw; (try dsimp only at hSw); (try simp only [List.getElem_toArray, List.getElem_cons_succ, List.getElem_cons_zero]); go_simp; try with_reducible rfl)
        try simp only [List.getElem_toArray, List.getElem_cons_succ, List.getElem_cons_zero, Act.put, List.setIfInBounds_toArray, List.set_cons_zero, List.set_cons_succ]
        refine wpAnyH_take (i := 6) (v := ?_) rfl (by kernel_rfl) (by kernel_rfl) (by kernel_rfl) (fun _ _ _ h => h) (Or.inl ⟨by rfl, ?_⟩) hHeld ?_
        rotate_left
        · (intro wz hSw; (try dsimp only at hSw); (try simp only [List.getElem_toArray, List.getElem_cons_succ, List.getElem_cons_zero]); go_simp; try with_reducible rfl)
        try simp only [List.getElem_toArray, List.getElem_cons_succ, List.getElem_cons_zero, Act.put, List.setIfInBounds_toArray, List.set_cons_zero, List.set_cons_succ]
        refine wpAnyH_take (i := 7) (v := ?_) rfl (by kernel_rfl) (by kernel_rfl) (by kernel_rfl) (fun _ _ _ h => h) (Or.inl ⟨by rfl, ?_⟩) hHeld ?_
        rotate_left
        · (intro wz hSw; (try dsimp only at hSw); (try simp only [List.getElem_toArray, List.getElem_cons_succ, List.getElem_cons_zero]); go_simp; try with_reducible rfl)
        try simp only [List.getElem_toArray, List.getElem_cons_succ, List.getElem_cons_zero, Act.put, List.setIfInBounds_toArray, List.set_cons_zero, List.set_cons_succ]
        refine wpAnyH_take (i := 8) (v := ?_) rfl (by kernel_rfl) (by kernel_rfl) (by kernel_rfl) (fun _ _ _ h => h) (Or.inl ⟨by rfl, ?_⟩) hHeld ?_
        rotate_left
        · (intro wz hSw; (try dsimp only at hSw); (try simp only [List.getElem_toArray, List.getElem_cons_succ, List.getElem_cons_zero]); go_simp; try with_reducible rfl)
        try simp only [List.getElem_toArray, List.getElem_cons_succ, List.getElem_cons_zero, Act.put, List.setIfInBounds_toArray, List.set_cons_zero, List.set_cons_succ]
        refine wpAnyH_take (i := 9) (v := ?_) rfl (by kernel_rfl) (by kernel_rfl) (by kernel_rfl) (fun _ _ _ h => h) (Or.inl ⟨by rfl, ?_⟩) hHeld ?_
        rotate_left
        · (intro wz hSw; (try dsimp only at hSw); (try simp only [List.getElem_toArray, List.getElem_cons_succ, List.getElem_cons_zero]); go_simp; try with_reducible rfl)
        try simp only [List.getElem_toArray, List.getElem_cons_succ, List.getElem_cons_zero, Act.put, List.setIfInBounds_toArray, List.set_cons_zero, List.set_cons_succ]
        refine wpAnyH_take (i := 10) (v := ?_) rfl (by kernel_rfl) (by kernel_rfl) (by kernel_rfl) (fun _ _ _ h => h) (Or.inl ⟨by rfl, ?_⟩) hHeld ?_
        rotate_left
        · (intro wz hSw; (try dsimp only at hSw); (try simp only [List.getElem_toArray, List.getElem_cons_succ, List.getElem_cons_zero]); go_simp; try with_reducible rfl)
        try simp only [List.getElem_toArray, List.getElem_cons_succ, List.getElem_cons_zero, Act.put, List.setIfInBounds_toArray, List.set_cons_zero, List.set_cons_succ]
        refine wpAnyH_take (i := 11) (v := ?_) rfl (by kernel_rfl) (by kernel_rfl) (by kernel_rfl) (fun _ _ _ h => h) (Or.inl ⟨by rfl, ?_⟩) hHeld ?_
        rotate_left
        · (intro wz hSw; (try dsimp only at hSw); (try simp only [List.getElem_toArray, List.getElem_cons_succ, List.getElem_cons_zero]); go_simp; try with_reducible rfl)
        try simp only [List.getElem_toArray, List.getElem_cons_succ, List.getElem_cons_zero, Act.put, List.setIfInBounds_toArray, List.set_cons_zero, List.set_cons_succ]
        refine wpAnyH_take (i := 12) (v := ?_) rfl (by kernel_rfl) (by kernel_rfl) (by kernel_rfl) (fun _ _ _ h => h) (Or.inl ⟨by rfl, ?_⟩) hHeld ?_
        rotate_left
        · (intro wz hSw; (try dsimp only at hSw); (try simp only [List.getElem_toArray, List.getElem_cons_succ, List.getElem_cons_zero]); go_simp; try with_reducible rfl)
        try simp only [List.getElem_toArray, List.getElem_cons_succ, List.getElem_cons_zero, Act.put, List.setIfInBounds_toArray, List.set_cons_zero, List.set_cons_succ]
        refine wpAnyH_take (i := 14) (v := ?_) rfl (by kernel_rfl) (by kernel_rfl) (by kernel_rfl) (fun _ _ _ h => h) (Or.inl ⟨by rfl, ?_⟩) hHeld ?_
        rotate_left
        · (intro wz hSw; (try dsimp only at hSw); (try simp only [List.getElem_toArray, List.getElem_cons_succ, List.getElem_cons_zero]); go_simp; try with_reducible rfl)
        try simp only [List.getElem_toArray, List.getElem_cons_succ, List.getElem_cons_zero, Act.put, List.setIfInBounds_toArray, List.set_cons_zero, List.set_cons_succ]
        clear hw1 hw2 hw3 hw4
        refine wpAnyH_ready (rs := [4, 15]) (by kernel_rfl) (by simp) ?_
        refine AllReadyH.cons rfl (fun K hK => ?_) (AllReadyH.cons rfl (fun K hK => ?_) AllReadyH.nil)
        · skip
          rw [if_pos (by rfl)]
          refine wp_load_mid 45 _ (by rfl) G (n * 45 + 8) (by rfl) [.int .i64 x.c.l.b, .int .i64 x.c.l.bt, .int .u16 x.c.l.j.ov, .int .u16 x.c.l.j.ox, .int .u16 x.c.l.j.ol, .int .i64 x.c.l.j.oe, .int .i64 x.c.l.j.ok, .int .u16 x.c.l.j.nv, .int .u16 x.c.l.j.nx, .int .u16 x.c.l.j.nl, .int .i64 x.c.l.j.ne, .int .i64 x.c.l.j.nk, .bool x.c.l.j.two, .slice x.p x.c.l.es.length x.k] _ (range_of (n := 14) rfl (fun j hj => by rw [Nat.add_assoc, HTD.out.l.cell hn (8 + j) (by omega), HX.out]; exact coL_log x j hj)) Try.underlying45 rfl (by kernel_rfl) ?_
          refine hK.out _ _ (HTD.out.s hn HX.out) (fun _ => ?_)
          clear hK K hHeld
          try simp only [List.getElem_toArray, List.getElem_cons_succ, List.getElem_cons_zero, Act.put, List.setIfInBounds_toArray, List.set_cons_zero, List.set_cons_succ]
          have hHeld := HTD.out.s hn HX.out
          refine wpAnyH_ready (rs := [13, 15]) (by kernel_rfl) (by simp) ?_
          refine AllReadyH.cons rfl (fun K hK => ?_) (AllReadyH.cons rfl (fun K hK => ?_) AllReadyH.nil)
          · skip
            try simp only [List.getElem_toArray, List.getElem_cons_succ, List.getElem_cons_zero]
            go_simp
            refine (slice_any x.c.l x.p x.k 0 (v1 - x.c.l.b - 1) wd hb0 hb1 HF.out.n (by decide) HFR.out.2 (EnSl.of_own (HX.out ▸ HTD.out.l.en _ (List.getElem_mem hn)))).mono ?_; rintro r W2 ⟨vv, rfl, ho, hb⟩
            rw [HES.out] at ho
            obtain ⟨q, cq, hvv⟩ := own_slice ho
            rw [HMN.out] at hvv
            subst hvv
            have HT2 := Lib.hid (HTD.out.keep hb); have HO2 := Lib.hid (HTD.out.new ho hb)
            clear ho hb
            refine hK.out _ _ (HT2.out.s hn HX.out) (fun _ => ?_)
            clear hK K hHeld
            try simp only [List.getElem_toArray, List.getElem_cons_succ, List.getElem_cons_zero, Act.put, List.setIfInBounds_toArray, List.set_cons_zero, List.set_cons_succ]
            have hHeld := HT2.out.s hn HX.out
            refine wpAnyH_ready (rs := [15]) (by kernel_rfl) (by simp) ?_
            refine AllReadyH.cons rfl (fun K hK => ?_) AllReadyH.nil
            try simp only [List.getElem_toArray, List.getElem_cons_succ, List.getElem_cons_zero]
            go_simp
            obtain ⟨W3, hw⟩ : ∃ z : World, W2.alloc (.cells #[.int .i64 v2, .int .i64 v3, .string v4, .int .u16 0, .int .u16 0, .int .u16 0, .int .i64 0, .int .i64 0, .int .u16 0, .int .u16 0, .int .u16 0, .int .i64 0, .int .i64 0, .bool false] 85) = z := ⟨_, rfl⟩
            have hb : Below W2.heap.size W2 W3 := by rw [← hw]; exact (Below.refl _ _).alloc (Nat.le_refl _) _
            have hq : W3.heap[W2.heap.size]? = some (.cells #[.int .i64 v2, .int .i64 v3, .string v4, .int .u16 0, .int .u16 0, .int .u16 0, .int .i64 0, .int .i64 0, .int .u16 0, .int .u16 0, .int .u16 0, .int .i64 0, .int .i64 0, .bool false] 85 (0, 0)) := by rw [← hw]; exact heap_last W2 _
            (try rw [hw])
            obtain ⟨Q, eQ⟩ : ∃ z, W2.heap.size = z := ⟨_, rfl⟩
            (try rw [eQ])
            rw [eQ] at hq
            have HT3 := Lib.hid (HT2.out.keep hb); have HQ3 := Lib.hid hq
            have HO3 := Lib.hid (HO2.out.keep hb)
            clear hw hb hq eQ
            refine hK.out _ _ (HT3.out.s hn HX.out) (fun _ => ?_)
            clear hK K hHeld
            try simp only [List.getElem_toArray, List.getElem_cons_succ, List.getElem_cons_zero, Act.put, List.setIfInBounds_toArray, List.set_cons_zero, List.set_cons_succ]
            have hHeld := HT3.out.s hn HX.out
            refine wpAnyH_ready (rs := [16]) (by kernel_rfl) (by simp) ?_
            refine AllReadyH.cons rfl (fun K hK => ?_) AllReadyH.nil
            rw [if_pos (by rfl)]
            obtain ⟨i1, hi1, hy0, hy1, hy2⟩ := info_parts Try.infoEn
            refine wp_append_row _ _ 43 (by rfl) B 85 i1 (.agg #[.int .i64 0, .int .i64 0, .string ⟨#[]⟩, .int .u16 0, .int .u16 0, .int .u16 0, .int .i64 0, .int .i64 0, .int .u16 0, .int .u16 0, .int .u16 0, .int .i64 0, .int .i64 0, .bool false]) 14 88 Try.underlying43 hi1 hy0 hy1 hy2 rfl (by decide) (.slice q mn cq) (x.c.l.es.take (v1 - x.c.l.b - 1).toNat).length (entRow (x.c.l.es.take (v1 - x.c.l.b - 1).toNat)) (by rfl) HO3.out.own _ (.slice (some ⟨Q, 0, none⟩) 1 1) 1 (entRow [⟨v2, v3, v4, jn0⟩]) (by rfl) (EnSl.one (e := ⟨v2, v3, v4, jn0⟩) HQ3.out) (by decide) (entC_one [⟨v2, v3, v4, jn0⟩]) (by have := HTL.out; unfold maxLen; omega) (by have := HTL.out; omega) (Nat.le_of_lt (Nat.lt_of_le_of_lt HT3.out.l.lt.1 HT3.out.l.lt.2)) ?_
            intro v8 W4 h2 h3 h4
            have HT4 := Lib.hid (HT3.out.app HO3.out h3)
            have HO4 : Hid (W4.ownsRow B 85 14 v8 ((x.c.l.es.take (v1 - x.c.l.b - 1).toNat) ++ ([⟨v2, v3, v4, jn0⟩] : List Ent)).length (entRow ((x.c.l.es.take (v1 - x.c.l.b - 1).toNat) ++ ([⟨v2, v3, v4, jn0⟩] : List Ent)))) := by
              show W4.ownsRow B 85 14 v8 ((x.c.l.es.take (v1 - x.c.l.b - 1).toNat) ++ ([⟨v2, v3, v4, jn0⟩] : List Ent)).length (entRow ((x.c.l.es.take (v1 - x.c.l.b - 1).toNat) ++ ([⟨v2, v3, v4, jn0⟩] : List Ent)))
              rw [List.length_append, entRow_app]; exact h2
            obtain ⟨q8, c8, hv8⟩ := own_slice HO4.out
            rw [HLN.out] at hv8
            subst hv8
            clear h2 h3 h4
            refine hK.out _ _ (HT4.out.s hn HX.out) (fun _ => ?_)
            clear hK K hHeld
            try simp only [List.getElem_toArray, List.getElem_cons_succ, List.getElem_cons_zero, Act.put, List.setIfInBounds_toArray, List.set_cons_zero, List.set_cons_succ]
            have hHeld := HT4.out.s hn HX.out
            refine wpAnyH_take (i := 17) (v := ?_) rfl (by kernel_rfl) (by kernel_rfl) (by kernel_rfl) (fun _ _ _ h => h) (Or.inl ⟨by rfl, ?_⟩) hHeld ?_
            rotate_left
            · (intro wz hSw; (try dsimp only at hSw); (try simp only [List.getElem_toArray, List.getElem_cons_succ, List.getElem_cons_zero]); go_simp; try with_reducible rfl)
            try simp only [List.getElem_toArray, List.getElem_cons_succ, List.getElem_cons_zero, Act.put, List.setIfInBounds_toArray, List.set_cons_zero, List.set_cons_succ]
            refine wpAnyH_take (i := 18) (v := ?_) rfl (by kernel_rfl) (by kernel_rfl) (by kernel_rfl) (fun _ _ _ h => h) (Or.inl ⟨by rfl, ?_⟩) hHeld ?_
            rotate_left
            · (intro wz hSw; (try dsimp only at hSw); (try simp only [List.getElem_toArray, List.getElem_cons_succ, List.getElem_cons_zero]); go_simp; try with_reducible rfl)
            try simp only [List.getElem_toArray, List.getElem_cons_succ, List.getElem_cons_zero, Act.put, List.setIfInBounds_toArray, List.set_cons_zero, List.set_cons_succ]
            refine wpAnyH_take (i := 19) (v := ?_) rfl (by kernel_rfl) (by kernel_rfl) (by kernel_rfl) (fun _ _ _ h => h) (Or.inl ⟨by rfl, ?_⟩) hHeld ?_
            rotate_left
            · (intro wz hSw; (try dsimp only at hSw); (try simp only [List.getElem_toArray, List.getElem_cons_succ, List.getElem_cons_zero]); go_simp; try with_reducible rfl)
            try simp only [List.getElem_toArray, List.getElem_cons_succ, List.getElem_cons_zero, Act.put, List.setIfInBounds_toArray, List.set_cons_zero, List.set_cons_succ]
            refine wpAnyH_ready (rs := [20]) (by kernel_rfl) (by simp) ?_
            refine AllReadyH.cons rfl (fun K hK => ?_) AllReadyH.nil
            have kE : W4.cell? ⟨G, n * 45 + 21, none⟩ = some (.slice x.p x.c.l.es.length x.k) := by rw [HT4.out.l.cell hn 21 (by decide), HX.out]; rfl
            have fE := HT4.out.l.free
            try simp only [List.getElem_toArray, List.getElem_cons_succ, List.getElem_cons_zero]
            go_simp
            have hp := HT4.out.l.put hn 21 (by decide) ⟨{ x.c with l := { x.c.l with es := (x.c.l.es.take (v1 - x.c.l.b - 1).toNat) ++ ([⟨v2, v3, v4, jn0⟩] : List Ent) } }, q8, c8⟩ (.slice q8 (mn + 1) c8) (by rw [HX.out, ← HLN.out]; rfl) (show CoOwn B W4 ⟨{ x.c with l := { x.c.l with es := (x.c.l.es.take (v1 - x.c.l.b - 1).toNat) ++ ([⟨v2, v3, v4, jn0⟩] : List Ent) } }, q8, c8⟩ from by unfold CoOwn; rw [HLN.out]; have ho := HO4.out; rw [HLN.out] at ho; exact ho)
            have HP := Lib.hid hp; have HBP := Lib.hid (HT4.out.b.trans hp.2)
            refine hK.out _ _ (HT4.out.sp hn HX.out _) (fun _ => ?_)
            clear hK K hHeld kE fE hp
            try simp only [List.getElem_toArray, List.getElem_cons_succ, List.getElem_cons_zero, Act.put, List.setIfInBounds_toArray, List.set_cons_zero, List.set_cons_succ]
            refine wpAnyH_done (by kernel_rfl) ?_ _
            go_wp2_with fail
            go_ret
            rw [HSS.out]
            exact ⟨rfl, HBP.out, fun rc h => by cases h; exact ⟨_, HAY.out, HP.out.1⟩⟩
          · skip
            try simp only [List.getElem_toArray, List.getElem_cons_succ, List.getElem_cons_zero]
            go_simp
            obtain ⟨W6, hw⟩ : ∃ z : World, wd.alloc (.cells #[.int .i64 v2, .int .i64 v3, .string v4, .int .u16 0, .int .u16 0, .int .u16 0, .int .i64 0, .int .i64 0, .int .u16 0, .int .u16 0, .int .u16 0, .int .i64 0, .int .i64 0, .bool false] 85) = z := ⟨_, rfl⟩
            have hb : Below wd.heap.size wd W6 := by rw [← hw]; exact (Below.refl _ _).alloc (Nat.le_refl _) _
            have hq : W6.heap[wd.heap.size]? = some (.cells #[.int .i64 v2, .int .i64 v3, .string v4, .int .u16 0, .int .u16 0, .int .u16 0, .int .i64 0, .int .i64 0, .int .u16 0, .int .u16 0, .int .u16 0, .int .i64 0, .int .i64 0, .bool false] 85 (0, 0)) := by rw [← hw]; exact heap_last wd _
            (try rw [hw])
            obtain ⟨Q, eQ⟩ : ∃ z, wd.heap.size = z := ⟨_, rfl⟩
            (try rw [eQ])
            rw [eQ] at hq
            have HT6 := Lib.hid (HTD.out.keep hb); have HQ6 := Lib.hid hq
            clear hw hb hq eQ
            refine hK.out _ _ (HT6.out.s hn HX.out) (fun _ => ?_)
            clear hK K hHeld
            try simp only [List.getElem_toArray, List.getElem_cons_succ, List.getElem_cons_zero, Act.put, List.setIfInBounds_toArray, List.set_cons_zero, List.set_cons_succ]
            have hHeld := HT6.out.s hn HX.out
            refine wpAnyH_ready (rs := [13]) (by kernel_rfl) (by simp) ?_
            refine AllReadyH.cons rfl (fun K hK => ?_) AllReadyH.nil
            try simp only [List.getElem_toArray, List.getElem_cons_succ, List.getElem_cons_zero]
            go_simp
            refine (slice_any x.c.l x.p x.k 0 (v1 - x.c.l.b - 1) W6 hb0 hb1 HF.out.n (by decide) HFR.out.2 (EnSl.of_own (HX.out ▸ HT6.out.l.en _ (List.getElem_mem hn)))).mono ?_; rintro r W7 ⟨vv, rfl, ho, hb⟩
            rw [HES.out] at ho
            obtain ⟨q, cq, hvv⟩ := own_slice ho
            rw [HMN.out] at hvv
            subst hvv
            have HT7 := Lib.hid (HT6.out.keep hb); have HO7 := Lib.hid (HT6.out.new ho hb)
            have HQ7 := Lib.hid (below_block hb (block_lt HQ6.out) HQ6.out)
            clear ho hb
            refine hK.out _ _ (HT7.out.s hn HX.out) (fun _ => ?_)
            clear hK K hHeld
            try simp only [List.getElem_toArray, List.getElem_cons_succ, List.getElem_cons_zero, Act.put, List.setIfInBounds_toArray, List.set_cons_zero, List.set_cons_succ]
            have hHeld := HT7.out.s hn HX.out
            refine wpAnyH_ready (rs := [16]) (by kernel_rfl) (by simp) ?_
            refine AllReadyH.cons rfl (fun K hK => ?_) AllReadyH.nil
            rw [if_pos (by rfl)]
            obtain ⟨i1, hi1, hy0, hy1, hy2⟩ := info_parts Try.infoEn
            refine wp_append_row _ _ 43 (by rfl) B 85 i1 (.agg #[.int .i64 0, .int .i64 0, .string ⟨#[]⟩, .int .u16 0, .int .u16 0, .int .u16 0, .int .i64 0, .int .i64 0, .int .u16 0, .int .u16 0, .int .u16 0, .int .i64 0, .int .i64 0, .bool false]) 14 88 Try.underlying43 hi1 hy0 hy1 hy2 rfl (by decide) (.slice q mn cq) (x.c.l.es.take (v1 - x.c.l.b - 1).toNat).length (entRow (x.c.l.es.take (v1 - x.c.l.b - 1).toNat)) (by rfl) HO7.out.own _ (.slice (some ⟨Q, 0, none⟩) 1 1) 1 (entRow [⟨v2, v3, v4, jn0⟩]) (by rfl) (EnSl.one (e := ⟨v2, v3, v4, jn0⟩) HQ7.out) (by decide) (entC_one [⟨v2, v3, v4, jn0⟩]) (by have := HTL.out; unfold maxLen; omega) (by have := HTL.out; omega) (Nat.le_of_lt (Nat.lt_of_le_of_lt HT7.out.l.lt.1 HT7.out.l.lt.2)) ?_
            intro v8 W8 h2 h3 h4
            have HT8 := Lib.hid (HT7.out.app HO7.out h3)
            have HO8 : Hid (W8.ownsRow B 85 14 v8 ((x.c.l.es.take (v1 - x.c.l.b - 1).toNat) ++ ([⟨v2, v3, v4, jn0⟩] : List Ent)).length (entRow ((x.c.l.es.take (v1 - x.c.l.b - 1).toNat) ++ ([⟨v2, v3, v4, jn0⟩] : List Ent)))) := by
              show W8.ownsRow B 85 14 v8 ((x.c.l.es.take (v1 - x.c.l.b - 1).toNat) ++ ([⟨v2, v3, v4, jn0⟩] : List Ent)).length (entRow ((x.c.l.es.take (v1 - x.c.l.b - 1).toNat) ++ ([⟨v2, v3, v4, jn0⟩] : List Ent)))
              rw [List.length_append, entRow_app]; exact h2
            obtain ⟨q8, c8, hv8⟩ := own_slice HO8.out
            rw [HLN.out] at hv8
            subst hv8
            clear h2 h3 h4
            refine hK.out _ _ (HT8.out.s hn HX.out) (fun _ => ?_)
            clear hK K hHeld
            try simp only [List.getElem_toArray, List.getElem_cons_succ, List.getElem_cons_zero, Act.put, List.setIfInBounds_toArray, List.set_cons_zero, List.set_cons_succ]
            have hHeld := HT8.out.s hn HX.out
            refine wpAnyH_take (i := 17) (v := ?_) rfl (by kernel_rfl) (by kernel_rfl) (by kernel_rfl) (fun _ _ _ h => h) (Or.inl ⟨by rfl, ?_⟩) hHeld ?_
            rotate_left
            · (intro wz hSw; (try dsimp only at hSw); (try simp only [List.getElem_toArray, List.getElem_cons_succ, List.getElem_cons_zero]); go_simp; try with_reducible rfl)
            try simp only [List.getElem_toArray, List.getElem_cons_succ, List.getElem_cons_zero, Act.put, List.setIfInBounds_toArray, List.set_cons_zero, List.set_cons_succ]
            refine wpAnyH_take (i := 18) (v := ?_) rfl (by kernel_rfl) (by kernel_rfl) (by kernel_rfl) (fun _ _ _ h => h) (Or.inl ⟨by rfl, ?_⟩) hHeld ?_
            rotate_left
            · (intro wz hSw; (try dsimp only at hSw); (try simp only [List.getElem_toArray, List.getElem_cons_succ, List.getElem_cons_zero]); go_simp; try with_reducible rfl)
            try simp only [List.getElem_toArray, List.getElem_cons_succ, List.getElem_cons_zero, Act.put, List.setIfInBounds_toArray, List.set_cons_zero, List.set_cons_succ]
            refine wpAnyH_take (i := 19) (v := ?_) rfl (by kernel_rfl) (by kernel_rfl) (by kernel_rfl) (fun _ _ _ h => h) (Or.inl ⟨by rfl, ?_⟩) hHeld ?_
            rotate_left
            · (intro wz hSw; (try dsimp only at hSw); (try simp only [List.getElem_toArray, List.getElem_cons_succ, List.getElem_cons_zero]); go_simp; try with_reducible rfl)
            try simp only [List.getElem_toArray, List.getElem_cons_succ, List.getElem_cons_zero, Act.put, List.setIfInBounds_toArray, List.set_cons_zero, List.set_cons_succ]
            refine wpAnyH_ready (rs := [20]) (by kernel_rfl) (by simp) ?_
            refine AllReadyH.cons rfl (fun K hK => ?_) AllReadyH.nil
            have kE : W8.cell? ⟨G, n * 45 + 21, none⟩ = some (.slice x.p x.c.l.es.length x.k) := by rw [HT8.out.l.cell hn 21 (by decide), HX.out]; rfl
            have fE := HT8.out.l.free
            try simp only [List.getElem_toArray, List.getElem_cons_succ, List.getElem_cons_zero]
            go_simp
            have hp := HT8.out.l.put hn 21 (by decide) ⟨{ x.c with l := { x.c.l with es := (x.c.l.es.take (v1 - x.c.l.b - 1).toNat) ++ ([⟨v2, v3, v4, jn0⟩] : List Ent) } }, q8, c8⟩ (.slice q8 (mn + 1) c8) (by rw [HX.out, ← HLN.out]; rfl) (show CoOwn B W8 ⟨{ x.c with l := { x.c.l with es := (x.c.l.es.take (v1 - x.c.l.b - 1).toNat) ++ ([⟨v2, v3, v4, jn0⟩] : List Ent) } }, q8, c8⟩ from by unfold CoOwn; rw [HLN.out]; have ho := HO8.out; rw [HLN.out] at ho; exact ho)
            have HP := Lib.hid hp; have HBP := Lib.hid (HT8.out.b.trans hp.2)
            refine hK.out _ _ (HT8.out.sp hn HX.out _) (fun _ => ?_)
            clear hK K hHeld kE fE hp
            try simp only [List.getElem_toArray, List.getElem_cons_succ, List.getElem_cons_zero, Act.put, List.setIfInBounds_toArray, List.set_cons_zero, List.set_cons_succ]
            refine wpAnyH_done (by kernel_rfl) ?_ _
            go_wp2_with fail
            go_ret
            rw [HSS.out]
            exact ⟨rfl, HBP.out, fun rc h => by cases h; exact ⟨_, HAY.out, HP.out.1⟩⟩
        · skip
          try simp only [List.getElem_toArray, List.getElem_cons_succ, List.getElem_cons_zero]
          go_simp
          obtain ⟨W10, hw⟩ : ∃ z : World, wd.alloc (.cells #[.int .i64 v2, .int .i64 v3, .string v4, .int .u16 0, .int .u16 0, .int .u16 0, .int .i64 0, .int .i64 0, .int .u16 0, .int .u16 0, .int .u16 0, .int .i64 0, .int .i64 0, .bool false] 85) = z := ⟨_, rfl⟩
          have hb : Below wd.heap.size wd W10 := by rw [← hw]; exact (Below.refl _ _).alloc (Nat.le_refl _) _
          have hq : W10.heap[wd.heap.size]? = some (.cells #[.int .i64 v2, .int .i64 v3, .string v4, .int .u16 0, .int .u16 0, .int .u16 0, .int .i64 0, .int .i64 0, .int .u16 0, .int .u16 0, .int .u16 0, .int .i64 0, .int .i64 0, .bool false] 85 (0, 0)) := by rw [← hw]; exact heap_last wd _
          (try rw [hw])
          obtain ⟨Q, eQ⟩ : ∃ z, wd.heap.size = z := ⟨_, rfl⟩
          (try rw [eQ])
          rw [eQ] at hq
          have HT10 := Lib.hid (HTD.out.keep hb); have HQ10 := Lib.hid hq
          clear hw hb hq eQ
          refine hK.out _ _ (HT10.out.s hn HX.out) (fun _ => ?_)
          clear hK K hHeld
          try simp only [List.getElem_toArray, List.getElem_cons_succ, List.getElem_cons_zero, Act.put, List.setIfInBounds_toArray, List.set_cons_zero, List.set_cons_succ]
          have hHeld := HT10.out.s hn HX.out
          refine wpAnyH_ready (rs := [4]) (by kernel_rfl) (by simp) ?_
          refine AllReadyH.cons rfl (fun K hK => ?_) AllReadyH.nil
          rw [if_pos (by rfl)]
          refine wp_load_mid 45 _ (by rfl) G (n * 45 + 8) (by rfl) [.int .i64 x.c.l.b, .int .i64 x.c.l.bt, .int .u16 x.c.l.j.ov, .int .u16 x.c.l.j.ox, .int .u16 x.c.l.j.ol, .int .i64 x.c.l.j.oe, .int .i64 x.c.l.j.ok, .int .u16 x.c.l.j.nv, .int .u16 x.c.l.j.nx, .int .u16 x.c.l.j.nl, .int .i64 x.c.l.j.ne, .int .i64 x.c.l.j.nk, .bool x.c.l.j.two, .slice x.p x.c.l.es.length x.k] _ (range_of (n := 14) rfl (fun j hj => by rw [Nat.add_assoc, HT10.out.l.cell hn (8 + j) (by omega), HX.out]; exact coL_log x j hj)) Try.underlying45 rfl (by kernel_rfl) ?_
          refine hK.out _ _ (HT10.out.s hn HX.out) (fun _ => ?_)
          clear hK K hHeld
          try simp only [List.getElem_toArray, List.getElem_cons_succ, List.getElem_cons_zero, Act.put, List.setIfInBounds_toArray, List.set_cons_zero, List.set_cons_succ]
          have hHeld := HT10.out.s hn HX.out
          refine wpAnyH_ready (rs := [13]) (by kernel_rfl) (by simp) ?_
          refine AllReadyH.cons rfl (fun K hK => ?_) AllReadyH.nil
          try simp only [List.getElem_toArray, List.getElem_cons_succ, List.getElem_cons_zero]
          go_simp
          refine (slice_any x.c.l x.p x.k 0 (v1 - x.c.l.b - 1) W10 hb0 hb1 HF.out.n (by decide) HFR.out.2 (EnSl.of_own (HX.out ▸ HT10.out.l.en _ (List.getElem_mem hn)))).mono ?_; rintro r W12 ⟨vv, rfl, ho, hb⟩
          rw [HES.out] at ho
          obtain ⟨q, cq, hvv⟩ := own_slice ho
          rw [HMN.out] at hvv
          subst hvv
          have HT12 := Lib.hid (HT10.out.keep hb); have HO12 := Lib.hid (HT10.out.new ho hb)
          have HQ12 := Lib.hid (below_block hb (block_lt HQ10.out) HQ10.out)
          clear ho hb
          refine hK.out _ _ (HT12.out.s hn HX.out) (fun _ => ?_)
          clear hK K hHeld
          try simp only [List.getElem_toArray, List.getElem_cons_succ, List.getElem_cons_zero, Act.put, List.setIfInBounds_toArray, List.set_cons_zero, List.set_cons_succ]
          have hHeld := HT12.out.s hn HX.out
          refine wpAnyH_ready (rs := [16]) (by kernel_rfl) (by simp) ?_
          refine AllReadyH.cons rfl (fun K hK => ?_) AllReadyH.nil
          rw [if_pos (by rfl)]
          obtain ⟨i1, hi1, hy0, hy1, hy2⟩ := info_parts Try.infoEn
          refine wp_append_row _ _ 43 (by rfl) B 85 i1 (.agg #[.int .i64 0, .int .i64 0, .string ⟨#[]⟩, .int .u16 0, .int .u16 0, .int .u16 0, .int .i64 0, .int .i64 0, .int .u16 0, .int .u16 0, .int .u16 0, .int .i64 0, .int .i64 0, .bool false]) 14 88 Try.underlying43 hi1 hy0 hy1 hy2 rfl (by decide) (.slice q mn cq) (x.c.l.es.take (v1 - x.c.l.b - 1).toNat).length (entRow (x.c.l.es.take (v1 - x.c.l.b - 1).toNat)) (by rfl) HO12.out.own _ (.slice (some ⟨Q, 0, none⟩) 1 1) 1 (entRow [⟨v2, v3, v4, jn0⟩]) (by rfl) (EnSl.one (e := ⟨v2, v3, v4, jn0⟩) HQ12.out) (by decide) (entC_one [⟨v2, v3, v4, jn0⟩]) (by have := HTL.out; unfold maxLen; omega) (by have := HTL.out; omega) (Nat.le_of_lt (Nat.lt_of_le_of_lt HT12.out.l.lt.1 HT12.out.l.lt.2)) ?_
          intro v8 W13 h2 h3 h4
          have HT13 := Lib.hid (HT12.out.app HO12.out h3)
          have HO13 : Hid (W13.ownsRow B 85 14 v8 ((x.c.l.es.take (v1 - x.c.l.b - 1).toNat) ++ ([⟨v2, v3, v4, jn0⟩] : List Ent)).length (entRow ((x.c.l.es.take (v1 - x.c.l.b - 1).toNat) ++ ([⟨v2, v3, v4, jn0⟩] : List Ent)))) := by
            show W13.ownsRow B 85 14 v8 ((x.c.l.es.take (v1 - x.c.l.b - 1).toNat) ++ ([⟨v2, v3, v4, jn0⟩] : List Ent)).length (entRow ((x.c.l.es.take (v1 - x.c.l.b - 1).toNat) ++ ([⟨v2, v3, v4, jn0⟩] : List Ent)))
            rw [List.length_append, entRow_app]; exact h2
          obtain ⟨q8, c8, hv8⟩ := own_slice HO13.out
          rw [HLN.out] at hv8
          subst hv8
          clear h2 h3 h4
          refine hK.out _ _ (HT13.out.s hn HX.out) (fun _ => ?_)
          clear hK K hHeld
          try simp only [List.getElem_toArray, List.getElem_cons_succ, List.getElem_cons_zero, Act.put, List.setIfInBounds_toArray, List.set_cons_zero, List.set_cons_succ]
          have hHeld := HT13.out.s hn HX.out
          refine wpAnyH_take (i := 17) (v := ?_) rfl (by kernel_rfl) (by kernel_rfl) (by kernel_rfl) (fun _ _ _ h => h) (Or.inl ⟨by rfl, ?_⟩) hHeld ?_
          rotate_left
          · (intro wz hSw; (try dsimp only at hSw); (try simp only [List.getElem_toArray, List.getElem_cons_succ, List.getElem_cons_zero]); go_simp; try with_reducible rfl)
          try simp only [List.getElem_toArray, List.getElem_cons_succ, List.getElem_cons_zero, Act.put, List.setIfInBounds_toArray, List.set_cons_zero, List.set_cons_succ]
          refine wpAnyH_take (i := 18) (v := ?_) rfl (by kernel_rfl) (by kernel_rfl) (by kernel_rfl) (fun _ _ _ h => h) (Or.inl ⟨by rfl, ?_⟩) hHeld ?_
          rotate_left
          · (intro wz hSw; (try dsimp only at hSw); (try simp only [List.getElem_toArray, List.getElem_cons_succ, List.getElem_cons_zero]); go_simp; try with_reducible rfl)
          try simp only [List.getElem_toArray, List.getElem_cons_succ, List.getElem_cons_zero, Act.put, List.setIfInBounds_toArray, List.set_cons_zero, List.set_cons_succ]
          refine wpAnyH_take (i := 19) (v := ?_) rfl (by kernel_rfl) (by kernel_rfl) (by kernel_rfl) (fun _ _ _ h => h) (Or.inl ⟨by rfl, ?_⟩) hHeld ?_
          rotate_left
          · (intro wz hSw; (try dsimp only at hSw); (try simp only [List.getElem_toArray, List.getElem_cons_succ, List.getElem_cons_zero]); go_simp; try with_reducible rfl)
          try simp only [List.getElem_toArray, List.getElem_cons_succ, List.getElem_cons_zero, Act.put, List.setIfInBounds_toArray, List.set_cons_zero, List.set_cons_succ]
          refine wpAnyH_ready (rs := [20]) (by kernel_rfl) (by simp) ?_
          refine AllReadyH.cons rfl (fun K hK => ?_) AllReadyH.nil
          have kE : W13.cell? ⟨G, n * 45 + 21, none⟩ = some (.slice x.p x.c.l.es.length x.k) := by rw [HT13.out.l.cell hn 21 (by decide), HX.out]; rfl
          have fE := HT13.out.l.free
          try simp only [List.getElem_toArray, List.getElem_cons_succ, List.getElem_cons_zero]
          go_simp
          have hp := HT13.out.l.put hn 21 (by decide) ⟨{ x.c with l := { x.c.l with es := (x.c.l.es.take (v1 - x.c.l.b - 1).toNat) ++ ([⟨v2, v3, v4, jn0⟩] : List Ent) } }, q8, c8⟩ (.slice q8 (mn + 1) c8) (by rw [HX.out, ← HLN.out]; rfl) (show CoOwn B W13 ⟨{ x.c with l := { x.c.l with es := (x.c.l.es.take (v1 - x.c.l.b - 1).toNat) ++ ([⟨v2, v3, v4, jn0⟩] : List Ent) } }, q8, c8⟩ from by unfold CoOwn; rw [HLN.out]; have ho := HO13.out; rw [HLN.out] at ho; exact ho)
          have HP := Lib.hid hp; have HBP := Lib.hid (HT13.out.b.trans hp.2)
          refine hK.out _ _ (HT13.out.sp hn HX.out _) (fun _ => ?_)
          clear hK K hHeld kE fE hp
          try simp only [List.getElem_toArray, List.getElem_cons_succ, List.getElem_cons_zero, Act.put, List.setIfInBounds_toArray, List.set_cons_zero, List.set_cons_succ]
          refine wpAnyH_done (by kernel_rfl) ?_ _
          go_wp2_with fail
          go_ret
          rw [HSS.out]
          exact ⟨rfl, HBP.out, fun rc h => by cases h; exact ⟨_, HAY.out, HP.out.1⟩⟩
      · have hd2 : decide (v1 ≤ x.c.l.last + 1) = false := by simpa using hle
        have HAN : Hid (x.c = apRc x.c (.en v1 ⟨v2, v3, v4, jn0⟩)) := (apRc_no (fun h => hle h.2)).symm
        go_wp2_with fail
        refine HLA.out.mono ?_; rintro r0 w9 ⟨rfl, hb9⟩
        have HB9 := Lib.hid (HB7.out.trans (hb9.mono (Nat.le_trans HBS.out HB7.out.size))); have HL9 := Lib.hid (HL7.out.keep hb9)
        clear k8 k9 k10 k11 k12 k13 k14 k15 k16 k17 k18 k19 k20 k21 hb9 HLA HB7 HL7
        go_wp2_with fail
        go_ret
        rw [HSS.out]
        exact ⟨rfl, HB9.out, fun rc h => by cases h; exact ⟨x, HAN.out, HSELF.out.symm ▸ HL9.out⟩⟩
    · have hd : decide (x.c.l.b < v1) = false := by simpa using hg
      have HAN : Hid (x.c = apRc x.c (.en v1 ⟨v2, v3, v4, jn0⟩)) := (apRc_no (fun h => hg h.1)).symm
      go_wp2_with fail
      go_ret
      rw [HSS.out]
      exact ⟨rfl, HB7.out, fun rc h => by cases h; exact ⟨x, HAN.out, HSELF.out.symm ▸ HL7.out⟩⟩
  · have hE2 : (!b4 && ys4.isEmpty) = false := by simpa using hE
    rw [hE2] at HE
    rw [allR_no hE2] at HS
    have HSS := Lib.hid HS.out
    clear hE hE2 HS
    go_wp2_with fail
    refine HE.out.mono ?_; rintro e w' ⟨rfl, rfl⟩
    clear HE
    go_wp2_with fail
    go_ret
    rw [HSS.out]
    exact ⟨rfl, HB7.out, fun rc h => by cases h⟩
end Go.Proofs.Ytjaabakobpabjaa
