/- Core: methods of an act: what a node has is noted (the program's acked). -/
import Derived.Test.YtbnndbdnejfehaaGreatDoorActZ
namespace Go.Proofs.YtbnndbdnejfehaaGreatDoor
open Go.ChangeShapes Go.WideShapes Go.ChangeAt Go.RowKit

/-- A message's cells, and one of the act's. -/
structure AckS (R X n : Nat) (ms : Array Value) (u : Value) (w' : World) : Prop where
  x : ∀ j, w'.cell? ⟨X, j, none⟩ = ms[j]?
  m : w'.cell? ⟨R, n, none⟩ = some u
structure XS (X : Nat) (ms : Array Value) (w' : World) : Prop where
  x : ∀ j, w'.cell? ⟨X, j, none⟩ = ms[j]?
theorem acked_no {a : Ac} {m : Ms} {n : Nat} (h : m.yes = false) (hn : m.fr = (n : Int)) : ackedA a m = bringA ⟨{ a.c with hd := withS a.c.hd m.fr, nx := upd a.c.nx n (max (min (m.ix + 1) (a.c.l.last + 1)) (a.c.mt n + 1)) }, a.out⟩ m.fr := by
  unfold ackedA
  rw [if_neg (by rw [h]; exact Bool.false_ne_true), hn]; rfl
/-- A core that notes what a node has. -/
def noteC (c : Co) (n : Nat) (ix : Int) : Co := { c with hd := withS c.hd (n : Int), mt := upd c.mt n (max (c.mt n) (min ix c.l.last)), nx := upd c.nx n (max (c.mt n) (min ix c.l.last) + 1) }
theorem acked_yes {a : Ac} {m : Ms} {n : Nat} (h : m.yes = true) (hn : m.fr = (n : Int)) : ackedA a m = if (countsC (noteC a.c n m.ix)).role = 2 ∧ (countsC (noteC a.c n m.ix)).nx n ≤ (countsC (noteC a.c n m.ix)).l.last then bringA ⟨countsC (noteC a.c n m.ix), a.out⟩ m.fr else ⟨countsC (noteC a.c n m.ix), a.out⟩ := by
  unfold ackedA
  rw [if_pos h, hn]; rfl
theorem CoFit.note {N : Nat} {c : Co} (h : CoFit N c) (n : Nat) {ix : Int} (_hx : 0 ≤ ix) : CoFit N (noteC c n ix) := by
  have h0 := h.lo.f.b0; have h1 := h.lo.f.b1; have h2 := h.lo.f.n
  have hl : 0 ≤ c.l.last ∧ c.l.last ≤ 1152921504607846976 := by unfold Lg.last; omega
  refine ⟨h.lo, h.n, h.id0, h.id1, fun i hi => ?_, fun i hi => ?_, h.cm0, h.cm1⟩
  · show 0 ≤ upd c.nx n _ i ∧ upd c.nx n _ i ≤ _
    unfold upd
    split
    · rename_i e; have := h.mt n (by omega); omega
    · exact h.nx i hi
  · show 0 ≤ upd c.mt n _ i ∧ upd c.mt n _ i ≤ c.l.last
    unfold upd
    split
    · rename_i e; have := h.mt n (by omega); omega
    · exact h.mt i hi
theorem bringA_eq (c : Co) (o : List Ms) (n : Nat) : bringA ⟨c, o⟩ (n : Int) = ⟨c, o ++ [putM c (n : Int) (bringM c n)]⟩ := by unfold bringA sendA; rw [Int.toNat_natCast]

set_option maxRecDepth 100000 in
set_option maxHeartbeats 16000000 in
theorem acked_act (B R N : Nat) (c : Co) (p : Option Addr) (k : Nat) (v : Value) (l : List MsX) (m : Ms) (q : Option Addr) (d : Nat) (w : World) (h : AcW 69 B w R ⟨c, p, k⟩ v l) (hB : 0 < B) (hT : Tab w) (hF : CoFit N c) (hm : MgFit m) (hN : N < 600000) (hll : l.length ≤ 80000) :
    Calls Tryz.prog 44 #[.pointer (some ⟨R, 0, none⟩), .agg #[.int .i64 m.k, .int .i64 m.fr, .int .i64 m.dst, .int .i64 m.tm, .int .i64 m.ix, .int .i64 m.lt, .int .i64 m.cm, .int .i64 m.sf, .bool m.yes, .slice q m.es.length d, .string m.sn, .int .u16 m.cf.ov, .int .u16 m.cf.ox, .int .u16 m.cf.ol, .int .i64 m.cf.oe, .int .i64 m.cf.ok, .int .u16 m.cf.nv, .int .u16 m.cf.nx, .int .u16 m.cf.nl, .int .i64 m.cf.ne, .int .i64 m.cf.nk, .bool m.cf.two]] w (AcDo 69 B w R v (ackedA ⟨c, l.map MsX.m⟩ m)) := by
  obtain ⟨n, hfr⟩ : ∃ n : Nat, m.fr = (n : Int) := ⟨m.fr.toNat, by have := hm.fr0; omega⟩
  have hn9 : 1 ≤ n ∧ n ≤ 9 := by have := hm.fr0; have := hm.fr9; omega
  have hn10 : n < 10 := by omega
  have hn0 : 0 ≤ (n : Int) := by omega
  have hn1 : (n : Int) < 10 := by omega
  obtain ⟨W, hW⟩ : ∃ z : World, w.alloc (.cells #[.int .i64 m.k, .int .i64 m.fr, .int .i64 m.dst, .int .i64 m.tm, .int .i64 m.ix, .int .i64 m.lt, .int .i64 m.cm, .int .i64 m.sf, .bool m.yes, .slice q m.es.length d, .string m.sn, .int .u16 m.cf.ov, .int .u16 m.cf.ox, .int .u16 m.cf.ol, .int .i64 m.cf.oe, .int .i64 m.cf.ok, .int .u16 m.cf.nv, .int .u16 m.cf.nx, .int .u16 m.cf.nl, .int .i64 m.cf.ne, .int .i64 m.cf.nk, .bool m.cf.two] 39) = z := ⟨_, rfl⟩
  have hb : Below w.heap.size w W := by rw [← hW]; exact (Below.refl _ _).alloc (Nat.le_refl _) _
  have hX : W.heap[w.heap.size]? = some (.cells #[.int .i64 m.k, .int .i64 m.fr, .int .i64 m.dst, .int .i64 m.tm, .int .i64 m.ix, .int .i64 m.lt, .int .i64 m.cm, .int .i64 m.sf, .bool m.yes, .slice q m.es.length d, .string m.sn, .int .u16 m.cf.ov, .int .u16 m.cf.ox, .int .u16 m.cf.ol, .int .i64 m.cf.oe, .int .i64 m.cf.ok, .int .u16 m.cf.nv, .int .u16 m.cf.nx, .int .u16 m.cf.nl, .int .i64 m.cf.ne, .int .i64 m.cf.nk, .bool m.cf.two] 39 (0, 0)) := by rw [← hW]; exact heap_last w _
  obtain ⟨X, eX⟩ : ∃ X, w.heap.size = X := ⟨_, rfl⟩
  rw [eX] at hX
  have HA := Lib.hid (h.keep hb); have HB := Lib.hid (AcR.below (R := R) (v := v) hb)
  have HW := Lib.hid hW; have HEX := Lib.hid eX; have HX := Lib.hid hX
  have HF : Hid (CoFit N c) := hF; have HB0 := Lib.hid hB; have HT := Lib.hid hT; have HNN := Lib.hid hN; have HA0 := Lib.hid h
  obtain ⟨A, hA⟩ : ∃ A, ackedA ⟨c, l.map MsX.m⟩ m = A := ⟨_, rfl⟩
  have HAA := Lib.hid hA
  rw [hA]
  have HLL := Lib.hid hll
  have hix0 := hm.ix0; have hix1 := hm.ix1
  have hXR : X ≠ R := by have := h.lt; omega
  have hXv : v.ownBlock ≠ some X := fun e => by have := (h.vge _ e).2; omega
  have HFR := Lib.hid hfr
  obtain ⟨L, hL⟩ : ∃ L, c.l.last = L := ⟨_, rfl⟩
  have hLb : 0 ≤ L ∧ L ≤ 1152921504607846976 := by have := hF.lo.f.b0; have := hF.lo.f.b1; have := hF.lo.f.n; rw [← hL]; unfold Lg.last; omega
  have hmt : 0 ≤ c.mt n ∧ c.mt n ≤ L := by rw [← hL]; exact hF.mt n hn10
  have HL := Lib.hid hL
  obtain ⟨g, hg⟩ : ∃ g, withS c.hd (n : Int) = g := ⟨_, rfl⟩
  have HG := Lib.hid hg
  obtain ⟨ch, hch⟩ : ∃ ch : Co, { c with hd := g } = ch := ⟨_, rfl⟩
  have HCH := Lib.hid hch
  have hchl : ch.l = c.l := by rw [← hch]
  have hchm : ch.mt n = c.mt n := by rw [← hch]
  have HCHL := Lib.hid hchl; have HCHM := Lib.hid hchm
  have HFH : Hid (CoFit N ch) := by show CoFit N ch; rw [← hch]; exact ⟨hF.lo, hF.n, hF.id0, hF.id1, hF.nx, hF.mt, hF.cm0, hF.cm1⟩
  clear h hF hm hW hb hX eX hA hll hfr hL hg hch hchl hchm hB hT hN
  go_enter Tryz.func44, Tryz.ntmps44
  go_upto_region 1 with fail
  rw [HW.out]
  (try rw [HEX.out])
  clear HW
  have hAd := HA.out.keep (Below.refl _ _).drew
  have HXd : Hid (W.drew.heap[X]? = some (.cells #[.int .i64 m.k, .int .i64 m.fr, .int .i64 m.dst, .int .i64 m.tm, .int .i64 m.ix, .int .i64 m.lt, .int .i64 m.cm, .int .i64 m.sf, .bool m.yes, .slice q m.es.length d, .string m.sn, .int .u16 m.cf.ov, .int .u16 m.cf.ox, .int .u16 m.cf.ol, .int .i64 m.cf.oe, .int .i64 m.cf.ok, .int .u16 m.cf.nv, .int .u16 m.cf.nx, .int .u16 m.cf.nl, .int .i64 m.cf.ne, .int .i64 m.cf.nk, .bool m.cf.two] 39 (0, 0))) := HX.out
  have h0 : One X 1 (.int .i64 (n : Int)) W.drew := ⟨by rw [← HFR.out]; exact block_cells HXd.out 1⟩
  have HBd := Lib.hid HB.out.drew
  refine wp_region_held_drew (S := One X 1 (.int .i64 (n : Int))) (by kernel_rfl) h0 (fun hHeld => ?_)
  obtain ⟨wd, ewd⟩ : ∃ x, W.drew = x := ⟨_, rfl⟩
  rewrite [ewd] at hAd h0 hHeld HXd HBd ⊢
  clear ewd HA HB HX
  have kx : ∀ w', One X 1 (.int .i64 (n : Int)) w' → w'.cell? ⟨X, 1, none⟩ = some (.int .i64 (n : Int)) := fun w' h => h.r
  have hq := hAd.put 24 (.int .u16 g) (by decide) ⟨{ c with hd := g }, p, k⟩ rfl rfl rfl rfl
  rw [HCH.out] at hq
  have yX := (hq.2.blk HXd.out hXR hXv).1
  have s1 : One X 1 (.int .i64 (n : Int)) (wd.setCell ⟨R, 24, none⟩ (.int .u16 g)) := ⟨by rewrite [← HFR.out]; exact block_cells yX 1⟩
  have kc : wd.cell? ⟨R, 24, none⟩ = some (.int .u16 c.hd) := block_cells hAd.blk 24
  have fc : wd.frozen? ⟨R, 24, none⟩ = false := block_free hAd.blk 24
  have HA1 := Lib.hid hq.1; have HR1 := Lib.hid (HBd.out.trans hq.2); have HX1 := Lib.hid yX
  clear hAd hq yX
  refine tkH (i := 0) (v := ?_) rfl (Or.inl ⟨by rfl, ?_⟩) hHeld ?_
  rotate_left
  · (intro wz hSw; (try dsimp only at hSw); (try simp only [zA, zC]); go_simp; try with_reducible rfl)
  try simp only [zA, zC, Act.put, zD, zE, zF]
  refine tkH (i := 1) (v := ?_) rfl (Or.inl ⟨by rfl, ?_⟩) hHeld ?_
  rotate_left
  · (intro wz hSw; (try dsimp only at hSw); (try simp only [zA, zB, zC]); go_simp; try with_reducible rfl)
  try simp only [zA, zB, zC, Act.put, zD, zE, zF]
  refine tkH (i := 2) (v := ?_) rfl (Or.inl ⟨by rfl, ?_⟩) hHeld ?_
  rotate_left
  · (intro wz hSw; (try dsimp only at hSw); (try simp only [zA, zB, zC]); go_simp; try with_reducible rfl)
  try simp only [zA, zB, zC, Act.put, zD, zE, zF]
  refine tkH (i := 3) (v := ?_) rfl (Or.inl ⟨by rfl, ?_⟩) hHeld ?_
  rotate_left
  · (intro wz hSw; (try dsimp only at hSw); (try simp only [zA, zB, zC]); go_simp; try with_reducible rfl)
  try simp only [zA, zB, zC, Act.put, zD, zE, zF]
  refine tkH (i := 4) (v := ?_) rfl (Or.inl ⟨by rfl, ?_⟩) hHeld ?_
  rotate_left
  · (intro wz hSw; (try dsimp only at hSw); (try simp only [zA, zB, zC]); go_simp; try with_reducible rfl)
  try simp only [zA, zB, zC, Act.put, zD, zE, zF]
  refine tkH (i := 6) (v := ?_) rfl (Or.inl ⟨by rfl, ?_⟩) hHeld ?_
  rotate_left
  · (intro wz hSw; (try dsimp only at hSw); (try simp only [zA, zB, zC]); go_simp; try with_reducible rfl)
  try simp only [zA, zB, zC, Act.put, zD, zE, zF]
  refine tkH (i := 7) (v := ?_) rfl (Or.inl ⟨by rfl, ?_⟩) hHeld ?_
  rotate_left
  · (intro wz hSw; (try dsimp only at hSw); (try simp only [zA, zB, zC]); go_simp; try with_reducible rfl)
  try simp only [zA, zB, zC, Act.put, zD, zE, zF]
  clear kx
  refine wpAnyH_ready (rs := [5]) (by kernel_rfl) (by simp) ?_; refine AllReadyH.cons rfl (fun K hK => ?_) AllReadyH.nil
  try simp only [zA, zB, zC]
  go_simp
  refine hK.out _ _ hHeld (fun _ => ?_)
  clear hK K
  try simp only [zA, zB, zC, Act.put, zD, zE, zF]
  refine wpAnyH_ready (rs := [8]) (by kernel_rfl) (by simp) ?_; refine AllReadyH.cons rfl (fun K hK => ?_) AllReadyH.nil; (try simp only [zA, zB, zC]); go_simp
  refine (show Calls Tryz.prog 40 #[.int .u16 c.hd, .int .i64 (n : Int)] wd fun e w' => e = .returned (.int .u16 g) ∧ wd = w' from by have := with_any c.hd (n : Int) wd; rw [show bits .or .u16 c.hd (oneB (n : Int)) = g from HG.out] at this; exact this).mono ?_; rintro r0 w4 ⟨rfl, rfl⟩
  refine hK.out _ _ h0 (fun _ => ?_)
  clear hK K hHeld
  try simp only [zA, zB, zC, Act.put, zD, zE, zF]
  have hHeld := h0
  refine tkH (i := 9) (v := ?_) rfl (Or.inl ⟨by rfl, ?_⟩) hHeld ?_
  rotate_left
  · (intro wz hSw; (try dsimp only at hSw); (try simp only [zA, zB, zC]); go_simp; try with_reducible rfl)
  try simp only [zA, zB, zC, Act.put, zD, zE, zF]
  refine tkH (i := 10) (v := ?_) rfl (Or.inl ⟨by rfl, ?_⟩) hHeld ?_
  rotate_left
  · (intro wz hSw; (try dsimp only at hSw); (try simp only [zA, zB, zC]); go_simp; try with_reducible rfl)
  try simp only [zA, zB, zC, Act.put, zD, zE, zF]
  refine tkH (i := 11) (v := ?_) rfl (Or.inl ⟨by rfl, ?_⟩) hHeld ?_
  rotate_left
  · (intro wz hSw; (try dsimp only at hSw); (try simp only [zA, zB, zC]); go_simp; try with_reducible rfl)
  try simp only [zA, zB, zC, Act.put, zD, zE, zF]
  refine wpAnyH_ready (rs := [12]) (by kernel_rfl) (by simp) ?_; refine AllReadyH.cons rfl (fun K hK => ?_) AllReadyH.nil
  try simp only [zA, zB, zC]
  go_simp
  refine hK.out _ _ s1 (fun _ => ?_)
  clear hK K hHeld kc fc
  try simp only [zA, zB, zC, Act.put, zD, zE, zF]
  refine wpAnyH_done (by kernel_rfl) ?_ _
  obtain ⟨W1, hW1⟩ : ∃ z : World, wd.setCell ⟨R, 24, none⟩ (.int .u16 g) = z := ⟨_, rfl⟩
  rw [hW1] at HA1 HR1 HX1 ⊢
  clear hW1 h0 s1 HXd HBd
  have HLA := Lib.hid (show Calls Tryz.prog 96 #[.pointer (some ⟨R, 0, none⟩)] W1 fun e w' => e = .returned (.tuple #[.int .i64 L, .int .i64 (lastTerm ch.l)]) ∧ Below W1.heap.size W1 w' from by have := last_act R ch p k v W1 HA1.out.blk HFH.out.lo.f (EnSl.of_own HA1.out.en); rw [show ch.l.last = L from by rw [HCHL.out]; exact HL.out] at this; exact this)
  go_wp2_with fail
  refine HLA.out.mono ?_; rintro r w2 ⟨rfl, b2⟩
  have HA2 := Lib.hid (HA1.out.keep b2); have HR2 := Lib.hid (HR1.out.trans (AcR.below b2)); have HX2 := Lib.hid (below_block b2 (block_lt HX1.out) HX1.out)
  clear b2 HLA HA1 HR1 HX1
  have kx8 : w2.cell? ⟨X, 8, none⟩ = some (.bool m.yes) := block_cells HX2.out 8
  have hw1 : IntKind.i64.wrap (m.ix + 1) = m.ix + 1 := by rw [IntKind.wrap_i64]; omega
  have hw2 : IntKind.i64.wrap (L + 1) = L + 1 := by rw [IntKind.wrap_i64]; omega
  cases hy : m.yes with
  | false =>
    have HY := Lib.hid hy
    rw [hy] at kx8
    obtain ⟨val, hval⟩ : ∃ val, max (min (m.ix + 1) (L + 1)) (c.mt n + 1) = val := ⟨_, rfl⟩
    obtain ⟨cn, hcn⟩ : ∃ cn : Co, { ch with nx := upd ch.nx n val } = cn := ⟨_, rfl⟩
    have hw3 : IntKind.i64.wrap (c.mt n + 1) = c.mt n + 1 := by rw [IntKind.wrap_i64]; omega
    have hvb : 0 ≤ val ∧ val ≤ 4611686018427387904 := by omega
    have HVAL := Lib.hid hval; have HCN := Lib.hid hcn
    have HNXN := Lib.hid (show cn.nx n = val from by rw [← hcn]; exact upd_self _ _ _)
    have HZ : Hid (A = bringA ⟨cn, l.map MsX.m⟩ (n : Int)) := by
      show _ = _
      rw [← HAA.out, ← hcn, ← HCH.out, ← HG.out, ← hval, ← HL.out, ← HFR.out]; exact acked_no hy HFR.out
    clear hy hval hcn
    go_upto_region 4 with fail
    have hAd := HA2.out.keep (Below.refl _ _).drew
    have HXd : Hid (w2.drew.heap[X]? = some (.cells #[.int .i64 m.k, .int .i64 m.fr, .int .i64 m.dst, .int .i64 m.tm, .int .i64 m.ix, .int .i64 m.lt, .int .i64 m.cm, .int .i64 m.sf, .bool m.yes, .slice q m.es.length d, .string m.sn, .int .u16 m.cf.ov, .int .u16 m.cf.ox, .int .u16 m.cf.ol, .int .i64 m.cf.oe, .int .i64 m.cf.ok, .int .u16 m.cf.nv, .int .u16 m.cf.nx, .int .u16 m.cf.nl, .int .i64 m.cf.ne, .int .i64 m.cf.nk, .bool m.cf.two] 39 (0, 0))) := HX2.out
    have h0 : AckS R X (35 + n) #[.int .i64 m.k, .int .i64 m.fr, .int .i64 m.dst, .int .i64 m.tm, .int .i64 m.ix, .int .i64 m.lt, .int .i64 m.cm, .int .i64 m.sf, .bool m.yes, .slice q m.es.length d, .string m.sn, .int .u16 m.cf.ov, .int .u16 m.cf.ox, .int .u16 m.cf.ol, .int .i64 m.cf.oe, .int .i64 m.cf.ok, .int .u16 m.cf.nv, .int .u16 m.cf.nx, .int .u16 m.cf.nl, .int .i64 m.cf.ne, .int .i64 m.cf.nk, .bool m.cf.two] (.int .i64 (c.mt n)) w2.drew := ⟨block_cells HXd.out, by rw [← HCHM.out]; exact ac_mt (c := ch) (p := p) (k := k) hAd.blk hn10⟩
    have HBd := Lib.hid HR2.out.drew
    refine wp_region_held_drew (S := AckS R X (35 + n) #[.int .i64 m.k, .int .i64 m.fr, .int .i64 m.dst, .int .i64 m.tm, .int .i64 m.ix, .int .i64 m.lt, .int .i64 m.cm, .int .i64 m.sf, .bool m.yes, .slice q m.es.length d, .string m.sn, .int .u16 m.cf.ov, .int .u16 m.cf.ox, .int .u16 m.cf.ol, .int .i64 m.cf.oe, .int .i64 m.cf.ok, .int .u16 m.cf.nv, .int .u16 m.cf.nx, .int .u16 m.cf.nl, .int .i64 m.cf.ne, .int .i64 m.cf.nk, .bool m.cf.two] (.int .i64 (c.mt n))) (by kernel_rfl) h0 (fun hHeld => ?_)
    obtain ⟨we, ewd⟩ : ∃ x, w2.drew = x := ⟨_, rfl⟩
    rewrite [ewd] at hAd h0 hHeld HXd HBd ⊢
    clear ewd HA2 HR2 HX2 kx8
    have kx1 : ∀ w', AckS R X (35 + n) #[.int .i64 m.k, .int .i64 m.fr, .int .i64 m.dst, .int .i64 m.tm, .int .i64 m.ix, .int .i64 m.lt, .int .i64 m.cm, .int .i64 m.sf, .bool m.yes, .slice q m.es.length d, .string m.sn, .int .u16 m.cf.ov, .int .u16 m.cf.ox, .int .u16 m.cf.ol, .int .i64 m.cf.oe, .int .i64 m.cf.ok, .int .u16 m.cf.nv, .int .u16 m.cf.nx, .int .u16 m.cf.nl, .int .i64 m.cf.ne, .int .i64 m.cf.nk, .bool m.cf.two] (.int .i64 (c.mt n)) w' → w'.cell? ⟨X, 1, none⟩ = some (.int .i64 (n : Int)) := fun w' h => by rw [← HFR.out]; exact h.x 1
    have kx4 : ∀ w', AckS R X (35 + n) #[.int .i64 m.k, .int .i64 m.fr, .int .i64 m.dst, .int .i64 m.tm, .int .i64 m.ix, .int .i64 m.lt, .int .i64 m.cm, .int .i64 m.sf, .bool m.yes, .slice q m.es.length d, .string m.sn, .int .u16 m.cf.ov, .int .u16 m.cf.ox, .int .u16 m.cf.ol, .int .i64 m.cf.oe, .int .i64 m.cf.ok, .int .u16 m.cf.nv, .int .u16 m.cf.nx, .int .u16 m.cf.nl, .int .i64 m.cf.ne, .int .i64 m.cf.nk, .bool m.cf.two] (.int .i64 (c.mt n)) w' → w'.cell? ⟨X, 4, none⟩ = some (.int .i64 m.ix) := fun w' h => h.x 4
    have km : ∀ w', AckS R X (35 + n) #[.int .i64 m.k, .int .i64 m.fr, .int .i64 m.dst, .int .i64 m.tm, .int .i64 m.ix, .int .i64 m.lt, .int .i64 m.cm, .int .i64 m.sf, .bool m.yes, .slice q m.es.length d, .string m.sn, .int .u16 m.cf.ov, .int .u16 m.cf.ox, .int .u16 m.cf.ol, .int .i64 m.cf.oe, .int .i64 m.cf.ok, .int .u16 m.cf.nv, .int .u16 m.cf.nx, .int .u16 m.cf.nl, .int .i64 m.cf.ne, .int .i64 m.cf.nk, .bool m.cf.two] (.int .i64 (c.mt n)) w' → w'.cell? ⟨R, 35 + n, none⟩ = some (.int .i64 (c.mt n)) := fun w' h => h.m
    have hq := hAd.put (25 + n) (.int .i64 val) (by omega) ⟨{ ch with nx := upd ch.nx n val }, p, k⟩ (nx_set ch p k hn10 val) rfl rfl rfl
    rw [HCN.out] at hq
    have yX := (hq.2.blk HXd.out hXR hXv).1
    have s1 : AckS R X (35 + n) #[.int .i64 m.k, .int .i64 m.fr, .int .i64 m.dst, .int .i64 m.tm, .int .i64 m.ix, .int .i64 m.lt, .int .i64 m.cm, .int .i64 m.sf, .bool m.yes, .slice q m.es.length d, .string m.sn, .int .u16 m.cf.ov, .int .u16 m.cf.ox, .int .u16 m.cf.ol, .int .i64 m.cf.oe, .int .i64 m.cf.ok, .int .u16 m.cf.nv, .int .u16 m.cf.nx, .int .u16 m.cf.nl, .int .i64 m.cf.ne, .int .i64 m.cf.nk, .bool m.cf.two] (.int .i64 (c.mt n)) (we.setCell ⟨R, 25 + n, none⟩ (.int .i64 val)) := ⟨block_cells yX, by
      have h9 := ac_mt (c := cn) (p := p) (k := k) hq.1.blk hn10
      rw [show cn.mt n = c.mt n from by rw [← HCN.out]; exact HCHM.out] at h9; exact h9⟩
    have kc : we.cell? ⟨R, 25 + n, none⟩ = some (.int .i64 (ch.nx n)) := ac_nx (c := ch) (p := p) (k := k) hAd.blk hn10
    have fc : we.frozen? ⟨R, 25 + n, none⟩ = false := block_free hAd.blk (25 + n)
    have HA3 := Lib.hid hq.1; have HR3 := Lib.hid (HBd.out.trans hq.2); have HX3 := Lib.hid yX
    clear hAd hq yX
    refine tkH (i := 0) (v := ?_) rfl (Or.inl ⟨by rfl, ?_⟩) hHeld ?_
    rotate_left
    · (intro wz hSw; (try dsimp only at hSw); (try simp only [zA, zC]); go_simp; try with_reducible rfl)
    try simp only [zA, zC, Act.put, zD, zE, zF]
    refine tkH (i := 1) (v := ?_) rfl (Or.inl ⟨by rfl, ?_⟩) hHeld ?_
    rotate_left
    · (intro wz hSw; (try dsimp only at hSw); (try simp only [zA, zB, zC]); go_simp; try with_reducible rfl)
    try simp only [zA, zB, zC, Act.put, zD, zE, zF]
    refine tkH (i := 2) (v := ?_) rfl (Or.inl ⟨by rfl, ?_⟩) hHeld ?_
    rotate_left
    · (intro wz hSw; (try dsimp only at hSw); (try simp only [zA, zB, zC]); go_simp; try with_reducible rfl)
    try simp only [zA, zB, zC, Act.put, zD, zE, zF]
    refine tkH (i := 3) (v := ?_) rfl (Or.inl ⟨by rfl, ?_⟩) hHeld ?_
    rotate_left
    · (intro wz hSw; (try dsimp only at hSw); (try simp only [zA, zB, zC]); go_simp; try with_reducible rfl)
    try simp only [zA, zB, zC, Act.put, zD, zE, zF]
    refine tkH (i := 4) (v := ?_) rfl (Or.inl ⟨by rfl, ?_⟩) hHeld ?_
    rotate_left
    · (intro wz hSw; (try dsimp only at hSw); (try simp only [zA, zB, zC]); go_simp; try with_reducible rfl)
    try simp only [zA, zB, zC, Act.put, zD, zE, zF]
    refine tkH (i := 5) (v := ?_) rfl (Or.inl ⟨by rfl, ?_⟩) hHeld ?_
    rotate_left
    · (intro wz hSw; (try dsimp only at hSw); (try simp only [zA, zB, zC]); go_simp; try with_reducible rfl)
    try simp only [zA, zB, zC, Act.put, zD, zE, zF]
    refine tkH (i := 6) (v := ?_) rfl (Or.inl ⟨by rfl, ?_⟩) hHeld ?_
    rotate_left
    · (intro wz hSw; (try dsimp only at hSw); (try simp only [zA, zB, zC]); go_simp; try with_reducible rfl)
    try simp only [zA, zB, zC, Act.put, zD, zE, zF]
    refine tkH (i := 7) (v := ?_) rfl (Or.inl ⟨by rfl, ?_⟩) hHeld ?_
    rotate_left
    · (intro wz hSw; (try dsimp only at hSw); (try simp only [zA, zB, zC]); go_simp; try with_reducible rfl)
    try simp only [zA, zB, zC, Act.put, zD, zE, zF]
    refine tkH (i := 8) (v := ?_) rfl (Or.inl ⟨by rfl, ?_⟩) hHeld ?_
    rotate_left
    · (intro wz hSw; (try dsimp only at hSw); (try simp only [zA, zB, zC]); go_simp; try with_reducible rfl)
    try simp only [zA, zB, zC, Act.put, zD, zE, zF]
    refine tkH (i := 9) (v := ?_) rfl (Or.inl ⟨by rfl, ?_⟩) hHeld ?_
    rotate_left
    · (intro wz hSw; (try dsimp only at hSw); (try simp only [zA, zB, zC]); go_simp; try with_reducible rfl)
    try simp only [zA, zB, zC, Act.put, zD, zE, zF]
    refine tkH (i := 10) (v := ?_) rfl (Or.inl ⟨by rfl, ?_⟩) hHeld ?_
    rotate_left
    · (intro wz hSw; (try dsimp only at hSw); (try simp only [zA, zB, zC]); go_simp; try with_reducible rfl)
    try simp only [zA, zB, zC, Act.put, zD, zE, zF]
    refine tkH (i := 11) (v := ?_) rfl (Or.inl ⟨by rfl, ?_⟩) hHeld ?_
    rotate_left
    · (intro wz hSw; (try dsimp only at hSw); (try simp only [zA, zB, zC]); go_simp; try with_reducible rfl)
    try simp only [zA, zB, zC, Act.put, zD, zE, zF]
    refine tkH (i := 12) (v := ?_) rfl (Or.inl ⟨by rfl, ?_⟩) hHeld ?_
    rotate_left
    · (intro wz hSw; (try dsimp only at hSw); (try simp only [zA, zB, zC]); go_simp; try with_reducible rfl)
    try simp only [zA, zB, zC, Act.put, zD, zE, zF]
    refine tkH (i := 13) (v := ?_) rfl (Or.inl ⟨by rfl, ?_⟩) hHeld ?_
    rotate_left
    · (intro wz hSw; (try dsimp only at hSw); (try simp only [zA, zB, zC]); go_simp; try with_reducible rfl)
    try simp only [zA, zB, zC, Act.put, zD, zE, zF]
    refine tkH (i := 14) (v := ?_) rfl (Or.inl ⟨by rfl, ?_⟩) hHeld ?_
    rotate_left
    · (intro wz hSw; (try dsimp only at hSw); (try simp only [zA, zB, zC]); go_simp; try with_reducible rfl)
    try simp only [zA, zB, zC, Act.put, zD, zE, zF]
    refine tkH (i := 15) (v := ?_) rfl (Or.inl ⟨by rfl, ?_⟩) hHeld ?_
    rotate_left
    · (intro wz hSw; (try dsimp only at hSw); (try simp only [zA, zB, zC]); go_simp; try with_reducible rfl)
    try simp only [zA, zB, zC, Act.put, zD, zE, zF]
    refine tkH (i := 16) (v := ?_) rfl (Or.inl ⟨by rfl, ?_⟩) hHeld ?_
    rotate_left
    · (intro wz hSw; (try dsimp only at hSw); (try simp only [zA, zB, zC]); go_simp; try with_reducible rfl)
    try simp only [zA, zB, zC, Act.put, zD, zE, zF]
    refine tkH (i := 17) (v := ?_) rfl (Or.inl ⟨by rfl, ?_⟩) hHeld ?_
    rotate_left
    · (intro wz hSw; (try dsimp only at hSw); (try simp only [zA, zB, zC]); go_simp; try with_reducible rfl)
    try simp only [zA, zB, zC, Act.put, zD, zE, zF]
    refine tkH (i := 18) (v := .int .i64 val) rfl (Or.inl ⟨by rfl, ?_⟩) hHeld ?_
    · (intro wz hSw; (try simp only [zA, zB, zC]); go_simp; have h9 := HVAL.out; omega)
    try simp only [zA, zB, zC, Act.put, zD, zE, zF]
    refine tkH (i := 19) (v := ?_) rfl (Or.inl ⟨by rfl, ?_⟩) hHeld ?_
    rotate_left
    · (intro wz hSw; (try dsimp only at hSw); (try simp only [zA, zB, zC]); go_simp; try with_reducible rfl)
    try simp only [zA, zB, zC, Act.put, zD, zE, zF]
    refine tkH (i := 20) (v := ?_) rfl (Or.inl ⟨by rfl, ?_⟩) hHeld ?_
    rotate_left
    · (intro wz hSw; (try dsimp only at hSw); (try simp only [zA, zB, zC]); go_simp; try with_reducible rfl)
    try simp only [zA, zB, zC, Act.put, zD, zE, zF]
    refine tkH (i := 21) (v := ?_) rfl (Or.inl ⟨by rfl, ?_⟩) hHeld ?_
    rotate_left
    · (intro wz hSw; (try dsimp only at hSw); (try simp only [zA, zB, zC]); go_simp; try with_reducible rfl)
    try simp only [zA, zB, zC, Act.put, zD, zE, zF]
    refine tkH (i := 22) (v := ?_) rfl (Or.inl ⟨by rfl, ?_⟩) hHeld ?_
    rotate_left
    · (intro wz hSw; (try dsimp only at hSw); (try simp only [zA, zB, zC]); go_simp; try with_reducible rfl)
    try simp only [zA, zB, zC, Act.put, zD, zE, zF]
    clear kx1 kx4 km
    refine wpAnyH_ready (rs := [23]) (by kernel_rfl) (by simp) ?_; refine AllReadyH.cons rfl (fun K hK => ?_) AllReadyH.nil
    try simp only [zA, zB, zC]
    go_simp
    refine hK.out _ _ s1 (fun _ => ?_)
    clear hK K hHeld kc fc
    try simp only [zA, zB, zC, Act.put, zD, zE, zF]
    refine wpAnyH_done (by kernel_rfl) ?_ _
    obtain ⟨W3, hW3⟩ : ∃ z : World, we.setCell ⟨R, 25 + n, none⟩ (.int .i64 val) = z := ⟨_, rfl⟩
    rw [hW3] at HA3 HR3 HX3 ⊢
    clear hW3 h0 s1 HXd HBd hw1 hw2 hw3
    have kx1 : W3.cell? ⟨X, 1, none⟩ = some (.int .i64 (n : Int)) := by rw [← HFR.out]; exact block_cells HX3.out 1
    have HBR := Lib.hid (bring_act B R n cn p k v l W3 HA3.out (by rw [← HCN.out]; exact HFH.out.lo.f) hn10 (by rw [HNXN.out]; exact hvb) (by have := HLL.out; omega))
    go_wp2_with fail
    refine HBR.out.mono ?_; rintro r w4 ⟨rfl, v4, q4, d4, hA4, hr4⟩
    have HO : Hid (AcDo 69 B w R v A (.returned (.tuple #[])) w4) := AcDo.sent (HZ.out.trans (bringA_eq _ _ _)) hA4 (HR3.out.trans hr4)
    clear hA4 hr4 HBR
    go_wp2_with fail
    first | go_end0 | refine bodyPost_ret (results_none rfl _ _ _) rfl ?_
    exact HO.out
  | true =>
    have HY := Lib.hid hy
    rw [hy] at kx8
    obtain ⟨val, hval⟩ : ∃ val, max (c.mt n) (min m.ix L) = val := ⟨_, rfl⟩
    obtain ⟨cm, hcm⟩ : ∃ cm : Co, { ch with mt := upd ch.mt n val } = cm := ⟨_, rfl⟩
    obtain ⟨cn, hcn⟩ : ∃ cn : Co, { cm with nx := upd cm.nx n (val + 1) } = cn := ⟨_, rfl⟩
    have hvb : 0 ≤ val ∧ val ≤ 1152921504607846976 := by omega
    have hw3 : IntKind.i64.wrap (val + 1) = val + 1 := by rw [IntKind.wrap_i64]; omega
    have hnote : noteC c n m.ix = cn := by rw [← hcn, ← hcm, ← HCH.out, ← HG.out, ← hval, ← HL.out]; rfl
    have HVAL := Lib.hid hval; have HCM := Lib.hid hcm; have HCN := Lib.hid hcn; have HNOTE := Lib.hid hnote
    have HFN : Hid (CoFit N cn) := by show CoFit N cn; rw [← hnote]; exact HF.out.note n hix0
    clear hy hval hcm hcn hnote
    go_upto_region 6 with fail
    have hAd := HA2.out.keep (Below.refl _ _).drew
    have HXd : Hid (w2.drew.heap[X]? = some (.cells #[.int .i64 m.k, .int .i64 m.fr, .int .i64 m.dst, .int .i64 m.tm, .int .i64 m.ix, .int .i64 m.lt, .int .i64 m.cm, .int .i64 m.sf, .bool m.yes, .slice q m.es.length d, .string m.sn, .int .u16 m.cf.ov, .int .u16 m.cf.ox, .int .u16 m.cf.ol, .int .i64 m.cf.oe, .int .i64 m.cf.ok, .int .u16 m.cf.nv, .int .u16 m.cf.nx, .int .u16 m.cf.nl, .int .i64 m.cf.ne, .int .i64 m.cf.nk, .bool m.cf.two] 39 (0, 0))) := HX2.out
    have h0 : XS X #[.int .i64 m.k, .int .i64 m.fr, .int .i64 m.dst, .int .i64 m.tm, .int .i64 m.ix, .int .i64 m.lt, .int .i64 m.cm, .int .i64 m.sf, .bool m.yes, .slice q m.es.length d, .string m.sn, .int .u16 m.cf.ov, .int .u16 m.cf.ox, .int .u16 m.cf.ol, .int .i64 m.cf.oe, .int .i64 m.cf.ok, .int .u16 m.cf.nv, .int .u16 m.cf.nx, .int .u16 m.cf.nl, .int .i64 m.cf.ne, .int .i64 m.cf.nk, .bool m.cf.two] w2.drew := ⟨block_cells HXd.out⟩
    have HBd := Lib.hid HR2.out.drew
    refine wp_region_held_drew (S := XS X #[.int .i64 m.k, .int .i64 m.fr, .int .i64 m.dst, .int .i64 m.tm, .int .i64 m.ix, .int .i64 m.lt, .int .i64 m.cm, .int .i64 m.sf, .bool m.yes, .slice q m.es.length d, .string m.sn, .int .u16 m.cf.ov, .int .u16 m.cf.ox, .int .u16 m.cf.ol, .int .i64 m.cf.oe, .int .i64 m.cf.ok, .int .u16 m.cf.nv, .int .u16 m.cf.nx, .int .u16 m.cf.nl, .int .i64 m.cf.ne, .int .i64 m.cf.nk, .bool m.cf.two]) (by kernel_rfl) h0 (fun hHeld => ?_)
    obtain ⟨we, ewd⟩ : ∃ x, w2.drew = x := ⟨_, rfl⟩
    rewrite [ewd] at hAd h0 hHeld HXd HBd ⊢
    clear ewd HA2 HR2 HX2 kx8
    have kx1 : ∀ w', XS X #[.int .i64 m.k, .int .i64 m.fr, .int .i64 m.dst, .int .i64 m.tm, .int .i64 m.ix, .int .i64 m.lt, .int .i64 m.cm, .int .i64 m.sf, .bool m.yes, .slice q m.es.length d, .string m.sn, .int .u16 m.cf.ov, .int .u16 m.cf.ox, .int .u16 m.cf.ol, .int .i64 m.cf.oe, .int .i64 m.cf.ok, .int .u16 m.cf.nv, .int .u16 m.cf.nx, .int .u16 m.cf.nl, .int .i64 m.cf.ne, .int .i64 m.cf.nk, .bool m.cf.two] w' → w'.cell? ⟨X, 1, none⟩ = some (.int .i64 (n : Int)) := fun w' h => by rw [← HFR.out]; exact h.x 1
    have kx4 : ∀ w', XS X #[.int .i64 m.k, .int .i64 m.fr, .int .i64 m.dst, .int .i64 m.tm, .int .i64 m.ix, .int .i64 m.lt, .int .i64 m.cm, .int .i64 m.sf, .bool m.yes, .slice q m.es.length d, .string m.sn, .int .u16 m.cf.ov, .int .u16 m.cf.ox, .int .u16 m.cf.ol, .int .i64 m.cf.oe, .int .i64 m.cf.ok, .int .u16 m.cf.nv, .int .u16 m.cf.nx, .int .u16 m.cf.nl, .int .i64 m.cf.ne, .int .i64 m.cf.nk, .bool m.cf.two] w' → w'.cell? ⟨X, 4, none⟩ = some (.int .i64 m.ix) := fun w' h => h.x 4
    have hq := hAd.put (35 + n) (.int .i64 val) (by omega) ⟨{ ch with mt := upd ch.mt n val }, p, k⟩ (mt_set ch p k hn10 val) rfl rfl rfl
    rw [HCM.out] at hq
    have yX := (hq.2.blk HXd.out hXR hXv).1
    have s1 : XS X #[.int .i64 m.k, .int .i64 m.fr, .int .i64 m.dst, .int .i64 m.tm, .int .i64 m.ix, .int .i64 m.lt, .int .i64 m.cm, .int .i64 m.sf, .bool m.yes, .slice q m.es.length d, .string m.sn, .int .u16 m.cf.ov, .int .u16 m.cf.ox, .int .u16 m.cf.ol, .int .i64 m.cf.oe, .int .i64 m.cf.ok, .int .u16 m.cf.nv, .int .u16 m.cf.nx, .int .u16 m.cf.nl, .int .i64 m.cf.ne, .int .i64 m.cf.nk, .bool m.cf.two] (we.setCell ⟨R, 35 + n, none⟩ (.int .i64 val)) := ⟨block_cells yX⟩
    have kc : we.cell? ⟨R, 35 + n, none⟩ = some (.int .i64 (c.mt n)) := by rw [← HCHM.out]; exact ac_mt (c := ch) (p := p) (k := k) hAd.blk hn10
    have fc : we.frozen? ⟨R, 35 + n, none⟩ = false := block_free hAd.blk (35 + n)
    have HA3 := Lib.hid hq.1; have HR3 := Lib.hid (HBd.out.trans hq.2); have HX3 := Lib.hid yX
    clear hAd hq yX
    refine tkH (i := 0) (v := ?_) rfl (Or.inl ⟨by rfl, ?_⟩) hHeld ?_
    rotate_left
    · (intro wz hSw; (try dsimp only at hSw); (try simp only [zA, zC]); go_simp; try with_reducible rfl)
    try simp only [zA, zC, Act.put, zD, zE, zF]
    refine tkH (i := 1) (v := ?_) rfl (Or.inl ⟨by rfl, ?_⟩) hHeld ?_
    rotate_left
    · (intro wz hSw; (try dsimp only at hSw); (try simp only [zA, zB, zC]); go_simp; try with_reducible rfl)
    try simp only [zA, zB, zC, Act.put, zD, zE, zF]
    refine tkH (i := 2) (v := ?_) rfl (Or.inl ⟨by rfl, ?_⟩) hHeld ?_
    rotate_left
    · (intro wz hSw; (try dsimp only at hSw); (try simp only [zA, zB, zC]); go_simp; try with_reducible rfl)
    try simp only [zA, zB, zC, Act.put, zD, zE, zF]
    refine tkH (i := 3) (v := ?_) rfl (Or.inl ⟨by rfl, ?_⟩) hHeld ?_
    rotate_left
    · (intro wz hSw; (try dsimp only at hSw); (try simp only [zA, zB, zC]); go_simp; try with_reducible rfl)
    try simp only [zA, zB, zC, Act.put, zD, zE, zF]
    refine tkH (i := 4) (v := ?_) rfl (Or.inl ⟨by rfl, ?_⟩) hHeld ?_
    rotate_left
    · (intro wz hSw; (try dsimp only at hSw); (try simp only [zA, zB, zC]); go_simp; try with_reducible rfl)
    try simp only [zA, zB, zC, Act.put, zD, zE, zF]
    refine tkH (i := 5) (v := ?_) rfl (Or.inl ⟨by rfl, ?_⟩) hHeld ?_
    rotate_left
    · (intro wz hSw; (try dsimp only at hSw); (try simp only [zA, zB, zC]); go_simp; try with_reducible rfl)
    try simp only [zA, zB, zC, Act.put, zD, zE, zF]
    refine tkH (i := 6) (v := ?_) rfl (Or.inl ⟨by rfl, ?_⟩) hHeld ?_
    rotate_left
    · (intro wz hSw; (try dsimp only at hSw); (try simp only [zA, zB, zC]); go_simp; try with_reducible rfl)
    try simp only [zA, zB, zC, Act.put, zD, zE, zF]
    refine tkH (i := 7) (v := ?_) rfl (Or.inl ⟨by rfl, ?_⟩) hHeld ?_
    rotate_left
    · (intro wz hSw; (try dsimp only at hSw); (try simp only [zA, zB, zC]); go_simp; try with_reducible rfl)
    try simp only [zA, zB, zC, Act.put, zD, zE, zF]
    refine tkH (i := 8) (v := ?_) rfl (Or.inl ⟨by rfl, ?_⟩) hHeld ?_
    rotate_left
    · (intro wz hSw; (try dsimp only at hSw); (try simp only [zA, zB, zC]); go_simp; try with_reducible rfl)
    try simp only [zA, zB, zC, Act.put, zD, zE, zF]
    refine tkH (i := 9) (v := ?_) rfl (Or.inl ⟨by rfl, ?_⟩) hHeld ?_
    rotate_left
    · (intro wz hSw; (try dsimp only at hSw); (try simp only [zA, zB, zC]); go_simp; try with_reducible rfl)
    try simp only [zA, zB, zC, Act.put, zD, zE, zF]
    refine tkH (i := 11) (v := ?_) rfl (Or.inl ⟨by rfl, ?_⟩) hHeld ?_
    rotate_left
    · (intro wz hSw; (try dsimp only at hSw); (try simp only [zA, zB, zC]); go_simp; try with_reducible rfl)
    try simp only [zA, zB, zC, Act.put, zD, zE, zF]
    refine tkH (i := 12) (v := ?_) rfl (Or.inl ⟨by rfl, ?_⟩) hHeld ?_
    rotate_left
    · (intro wz hSw; (try dsimp only at hSw); (try simp only [zA, zB, zC]); go_simp; try with_reducible rfl)
    try simp only [zA, zB, zC, Act.put, zD, zE, zF]
    refine tkH (i := 13) (v := ?_) rfl (Or.inl ⟨by rfl, ?_⟩) hHeld ?_
    rotate_left
    · (intro wz hSw; (try dsimp only at hSw); (try simp only [zA, zB, zC]); go_simp; try with_reducible rfl)
    try simp only [zA, zB, zC, Act.put, zD, zE, zF]
    refine tkH (i := 14) (v := ?_) rfl (Or.inl ⟨by rfl, ?_⟩) hHeld ?_
    rotate_left
    · (intro wz hSw; (try dsimp only at hSw); (try simp only [zA, zB, zC]); go_simp; try with_reducible rfl)
    try simp only [zA, zB, zC, Act.put, zD, zE, zF]
    refine tkH (i := 16) (v := ?_) rfl (Or.inl ⟨by rfl, ?_⟩) hHeld ?_
    rotate_left
    · (intro wz hSw; (try dsimp only at hSw); (try simp only [zA, zB, zC]); go_simp; try with_reducible rfl)
    try simp only [zA, zB, zC, Act.put, zD, zE, zF]
    refine tkH (i := 17) (v := ?_) rfl (Or.inl ⟨by rfl, ?_⟩) hHeld ?_
    rotate_left
    · (intro wz hSw; (try dsimp only at hSw); (try simp only [zA, zB, zC]); go_simp; try with_reducible rfl)
    try simp only [zA, zB, zC, Act.put, zD, zE, zF]
    refine tkH (i := 18) (v := ?_) rfl (Or.inl ⟨by rfl, ?_⟩) hHeld ?_
    rotate_left
    · (intro wz hSw; (try dsimp only at hSw); (try simp only [zA, zB, zC]); go_simp; try with_reducible rfl)
    try simp only [zA, zB, zC, Act.put, zD, zE, zF]
    refine wpAnyH_ready (rs := [10]) (by kernel_rfl) (by simp) ?_; refine AllReadyH.cons rfl (fun K hK => ?_) AllReadyH.nil
    try simp only [zA, zB, zC]
    go_simp
    refine hK.out _ _ hHeld (fun _ => ?_)
    clear hK K
    try simp only [zA, zB, zC, Act.put, zD, zE, zF]
    refine tkH (i := 15) (v := .int .i64 val) rfl (Or.inl ⟨by rfl, ?_⟩) hHeld ?_
    · (intro wz hSw; (try simp only [zA, zB, zC]); go_simp; have h9 := HVAL.out; omega)
    try simp only [zA, zB, zC, Act.put, zD, zE, zF]
    refine tkH (i := 19) (v := ?_) rfl (Or.inl ⟨by rfl, ?_⟩) hHeld ?_
    rotate_left
    · (intro wz hSw; (try dsimp only at hSw); (try simp only [zA, zB, zC]); go_simp; try with_reducible rfl)
    try simp only [zA, zB, zC, Act.put, zD, zE, zF]
    clear kx1 kx4
    refine wpAnyH_ready (rs := [20]) (by kernel_rfl) (by simp) ?_; refine AllReadyH.cons rfl (fun K hK => ?_) AllReadyH.nil
    try simp only [zA, zB, zC]
    go_simp
    refine hK.out _ _ s1 (fun _ => ?_)
    clear hK K hHeld kc fc
    try simp only [zA, zB, zC, Act.put, zD, zE, zF]
    refine wpAnyH_done (by kernel_rfl) ?_ _
    obtain ⟨W3, hW3⟩ : ∃ z : World, we.setCell ⟨R, 35 + n, none⟩ (.int .i64 val) = z := ⟨_, rfl⟩
    rw [hW3] at HA3 HR3 HX3 ⊢
    clear hW3 h0 s1 HXd HBd hw1 hw2
    have HMTV := Lib.hid (show cm.mt n = val from by rw [← HCM.out]; exact upd_self _ _ _)
    go_upto_region 7 with fail
    have hAd := HA3.out.keep (Below.refl _ _).drew
    have HXd : Hid (W3.drew.heap[X]? = some (.cells #[.int .i64 m.k, .int .i64 m.fr, .int .i64 m.dst, .int .i64 m.tm, .int .i64 m.ix, .int .i64 m.lt, .int .i64 m.cm, .int .i64 m.sf, .bool m.yes, .slice q m.es.length d, .string m.sn, .int .u16 m.cf.ov, .int .u16 m.cf.ox, .int .u16 m.cf.ol, .int .i64 m.cf.oe, .int .i64 m.cf.ok, .int .u16 m.cf.nv, .int .u16 m.cf.nx, .int .u16 m.cf.nl, .int .i64 m.cf.ne, .int .i64 m.cf.nk, .bool m.cf.two] 39 (0, 0))) := HX3.out
    have h0 : AckS R X (35 + n) #[.int .i64 m.k, .int .i64 m.fr, .int .i64 m.dst, .int .i64 m.tm, .int .i64 m.ix, .int .i64 m.lt, .int .i64 m.cm, .int .i64 m.sf, .bool m.yes, .slice q m.es.length d, .string m.sn, .int .u16 m.cf.ov, .int .u16 m.cf.ox, .int .u16 m.cf.ol, .int .i64 m.cf.oe, .int .i64 m.cf.ok, .int .u16 m.cf.nv, .int .u16 m.cf.nx, .int .u16 m.cf.nl, .int .i64 m.cf.ne, .int .i64 m.cf.nk, .bool m.cf.two] (.int .i64 val) W3.drew := ⟨block_cells HXd.out, by rw [← HMTV.out]; exact ac_mt (c := cm) (p := p) (k := k) hAd.blk hn10⟩
    have HBd := Lib.hid HR3.out.drew
    refine wp_region_held_drew (S := AckS R X (35 + n) #[.int .i64 m.k, .int .i64 m.fr, .int .i64 m.dst, .int .i64 m.tm, .int .i64 m.ix, .int .i64 m.lt, .int .i64 m.cm, .int .i64 m.sf, .bool m.yes, .slice q m.es.length d, .string m.sn, .int .u16 m.cf.ov, .int .u16 m.cf.ox, .int .u16 m.cf.ol, .int .i64 m.cf.oe, .int .i64 m.cf.ok, .int .u16 m.cf.nv, .int .u16 m.cf.nx, .int .u16 m.cf.nl, .int .i64 m.cf.ne, .int .i64 m.cf.nk, .bool m.cf.two] (.int .i64 val)) (by kernel_rfl) h0 (fun hHeld => ?_)
    obtain ⟨wf, ewd⟩ : ∃ x, W3.drew = x := ⟨_, rfl⟩
    rewrite [ewd] at hAd h0 hHeld HXd HBd ⊢
    clear ewd HA3 HR3 HX3
    have kx1 : ∀ w', AckS R X (35 + n) #[.int .i64 m.k, .int .i64 m.fr, .int .i64 m.dst, .int .i64 m.tm, .int .i64 m.ix, .int .i64 m.lt, .int .i64 m.cm, .int .i64 m.sf, .bool m.yes, .slice q m.es.length d, .string m.sn, .int .u16 m.cf.ov, .int .u16 m.cf.ox, .int .u16 m.cf.ol, .int .i64 m.cf.oe, .int .i64 m.cf.ok, .int .u16 m.cf.nv, .int .u16 m.cf.nx, .int .u16 m.cf.nl, .int .i64 m.cf.ne, .int .i64 m.cf.nk, .bool m.cf.two] (.int .i64 val) w' → w'.cell? ⟨X, 1, none⟩ = some (.int .i64 (n : Int)) := fun w' h => by rw [← HFR.out]; exact h.x 1
    have km : ∀ w', AckS R X (35 + n) #[.int .i64 m.k, .int .i64 m.fr, .int .i64 m.dst, .int .i64 m.tm, .int .i64 m.ix, .int .i64 m.lt, .int .i64 m.cm, .int .i64 m.sf, .bool m.yes, .slice q m.es.length d, .string m.sn, .int .u16 m.cf.ov, .int .u16 m.cf.ox, .int .u16 m.cf.ol, .int .i64 m.cf.oe, .int .i64 m.cf.ok, .int .u16 m.cf.nv, .int .u16 m.cf.nx, .int .u16 m.cf.nl, .int .i64 m.cf.ne, .int .i64 m.cf.nk, .bool m.cf.two] (.int .i64 val) w' → w'.cell? ⟨R, 35 + n, none⟩ = some (.int .i64 val) := fun w' h => h.m
    have hq := hAd.put (25 + n) (.int .i64 (val + 1)) (by omega) ⟨{ cm with nx := upd cm.nx n (val + 1) }, p, k⟩ (nx_set cm p k hn10 (val + 1)) rfl rfl rfl
    rw [HCN.out] at hq
    have yX := (hq.2.blk HXd.out hXR hXv).1
    have s1 : AckS R X (35 + n) #[.int .i64 m.k, .int .i64 m.fr, .int .i64 m.dst, .int .i64 m.tm, .int .i64 m.ix, .int .i64 m.lt, .int .i64 m.cm, .int .i64 m.sf, .bool m.yes, .slice q m.es.length d, .string m.sn, .int .u16 m.cf.ov, .int .u16 m.cf.ox, .int .u16 m.cf.ol, .int .i64 m.cf.oe, .int .i64 m.cf.ok, .int .u16 m.cf.nv, .int .u16 m.cf.nx, .int .u16 m.cf.nl, .int .i64 m.cf.ne, .int .i64 m.cf.nk, .bool m.cf.two] (.int .i64 val) (wf.setCell ⟨R, 25 + n, none⟩ (.int .i64 (val + 1))) := ⟨block_cells yX, by
      have h9 := ac_mt (c := cn) (p := p) (k := k) hq.1.blk hn10
      rw [show cn.mt n = val from by rw [← HCN.out]; exact HMTV.out] at h9; exact h9⟩
    have kc : wf.cell? ⟨R, 25 + n, none⟩ = some (.int .i64 (cm.nx n)) := ac_nx (c := cm) (p := p) (k := k) hAd.blk hn10
    have fc : wf.frozen? ⟨R, 25 + n, none⟩ = false := block_free hAd.blk (25 + n)
    have HA4 := Lib.hid hq.1; have HR4 := Lib.hid (HBd.out.trans hq.2); have HX4 := Lib.hid yX
    clear hAd hq yX
    refine tkH (i := 0) (v := ?_) rfl (Or.inl ⟨by rfl, ?_⟩) hHeld ?_
    rotate_left
    · (intro wz hSw; (try dsimp only at hSw); (try simp only [zA, zC]); go_simp; try with_reducible rfl)
    try simp only [zA, zC, Act.put, zD, zE, zF]
    refine tkH (i := 1) (v := ?_) rfl (Or.inl ⟨by rfl, ?_⟩) hHeld ?_
    rotate_left
    · (intro wz hSw; (try dsimp only at hSw); (try simp only [zA, zB, zC]); go_simp; try with_reducible rfl)
    try simp only [zA, zB, zC, Act.put, zD, zE, zF]
    refine tkH (i := 2) (v := ?_) rfl (Or.inl ⟨by rfl, ?_⟩) hHeld ?_
    rotate_left
    · (intro wz hSw; (try dsimp only at hSw); (try simp only [zA, zB, zC]); go_simp; try with_reducible rfl)
    try simp only [zA, zB, zC, Act.put, zD, zE, zF]
    refine tkH (i := 3) (v := ?_) rfl (Or.inl ⟨by rfl, ?_⟩) hHeld ?_
    rotate_left
    · (intro wz hSw; (try dsimp only at hSw); (try simp only [zA, zB, zC]); go_simp; try with_reducible rfl)
    try simp only [zA, zB, zC, Act.put, zD, zE, zF]
    refine tkH (i := 4) (v := ?_) rfl (Or.inl ⟨by rfl, ?_⟩) hHeld ?_
    rotate_left
    · (intro wz hSw; (try dsimp only at hSw); (try simp only [zA, zB, zC]); go_simp; try with_reducible rfl)
    try simp only [zA, zB, zC, Act.put, zD, zE, zF]
    refine tkH (i := 5) (v := ?_) rfl (Or.inl ⟨by rfl, ?_⟩) hHeld ?_
    rotate_left
    · (intro wz hSw; (try dsimp only at hSw); (try simp only [zA, zB, zC]); go_simp; try with_reducible rfl)
    try simp only [zA, zB, zC, Act.put, zD, zE, zF]
    refine tkH (i := 6) (v := ?_) rfl (Or.inl ⟨by rfl, ?_⟩) hHeld ?_
    rotate_left
    · (intro wz hSw; (try dsimp only at hSw); (try simp only [zA, zB, zC]); go_simp; try with_reducible rfl)
    try simp only [zA, zB, zC, Act.put, zD, zE, zF]
    refine tkH (i := 7) (v := ?_) rfl (Or.inl ⟨by rfl, ?_⟩) hHeld ?_
    rotate_left
    · (intro wz hSw; (try dsimp only at hSw); (try simp only [zA, zB, zC]); go_simp; try with_reducible rfl)
    try simp only [zA, zB, zC, Act.put, zD, zE, zF]
    refine tkH (i := 8) (v := ?_) rfl (Or.inl ⟨by rfl, ?_⟩) hHeld ?_
    rotate_left
    · (intro wz hSw; (try dsimp only at hSw); (try simp only [zA, zB, zC]); go_simp; try with_reducible rfl)
    try simp only [zA, zB, zC, Act.put, zD, zE, zF]
    refine tkH (i := 9) (v := ?_) rfl (Or.inl ⟨by rfl, ?_⟩) hHeld ?_
    rotate_left
    · (intro wz hSw; (try dsimp only at hSw); (try simp only [zA, zB, zC]); go_simp; try with_reducible rfl)
    try simp only [zA, zB, zC, Act.put, zD, zE, zF]
    refine tkH (i := 10) (v := ?_) rfl (Or.inl ⟨by rfl, ?_⟩) hHeld ?_
    rotate_left
    · (intro wz hSw; (try dsimp only at hSw); (try simp only [zA, zB, zC]); go_simp; try with_reducible rfl)
    try simp only [zA, zB, zC, Act.put, zD, zE, zF]
    refine tkH (i := 11) (v := ?_) rfl (Or.inl ⟨by rfl, ?_⟩) hHeld ?_
    rotate_left
    · (intro wz hSw; (try dsimp only at hSw); (try simp only [zA, zB, zC]); go_simp; try with_reducible rfl)
    try simp only [zA, zB, zC, Act.put, zD, zE, zF]
    refine tkH (i := 12) (v := ?_) rfl (Or.inl ⟨by rfl, ?_⟩) hHeld ?_
    rotate_left
    · (intro wz hSw; (try dsimp only at hSw); (try simp only [zA, zB, zC]); go_simp; try with_reducible rfl)
    try simp only [zA, zB, zC, Act.put, zD, zE, zF]
    refine tkH (i := 13) (v := ?_) rfl (Or.inl ⟨by rfl, ?_⟩) hHeld ?_
    rotate_left
    · (intro wz hSw; (try dsimp only at hSw); (try simp only [zA, zB, zC]); go_simp; try with_reducible rfl)
    try simp only [zA, zB, zC, Act.put, zD, zE, zF]
    refine tkH (i := 14) (v := ?_) rfl (Or.inl ⟨by rfl, ?_⟩) hHeld ?_
    rotate_left
    · (intro wz hSw; (try dsimp only at hSw); (try simp only [zA, zB, zC]); go_simp; try with_reducible rfl)
    try simp only [zA, zB, zC, Act.put, zD, zE, zF]
    refine tkH (i := 15) (v := ?_) rfl (Or.inl ⟨by rfl, ?_⟩) hHeld ?_
    rotate_left
    · (intro wz hSw; (try dsimp only at hSw); (try simp only [zA, zB, zC]); go_simp; try with_reducible rfl)
    try simp only [zA, zB, zC, Act.put, zD, zE, zF]
    clear kx1 km
    refine wpAnyH_ready (rs := [16]) (by kernel_rfl) (by simp) ?_; refine AllReadyH.cons rfl (fun K hK => ?_) AllReadyH.nil
    try simp only [zA, zB, zC]
    go_simp
    refine hK.out _ _ s1 (fun _ => ?_)
    clear hK K hHeld kc fc
    try simp only [zA, zB, zC, Act.put, zD, zE, zF]
    refine wpAnyH_done (by kernel_rfl) ?_ _
    obtain ⟨W4, hW4⟩ : ∃ z : World, wf.setCell ⟨R, 25 + n, none⟩ (.int .i64 (val + 1)) = z := ⟨_, rfl⟩
    rw [hW4] at HA4 HR4 HX4 ⊢
    clear hW4 h0 s1 HXd HBd hw3
    obtain ⟨ct, hct⟩ : ∃ ct, countsC cn = ct := ⟨_, rfl⟩
    have hFT : CoFit (N + 1) ct := by rw [← hct]; exact HFN.out.counts (by have := HNN.out; omega)
    have HFT : Hid (CoFit (N + 1) ct) := hFT
    have HCC := Lib.hid (show Calls Tryz.prog 78 #[.pointer (some ⟨R, 0, none⟩)] W4 fun e w' => e = .returned (.tuple #[]) ∧ ∃ q d, AcW 69 B w' R ⟨ct, q, d⟩ v l ∧ AcR W4 w' R v v from by have := counts_act B R N cn p k v l W4 HA4.out HB0.out (HA0.out.tab HB0.out HT.out HR4.out) HFN.out (by have := HNN.out; omega); rw [hct] at this; exact this)
    have HCT := Lib.hid hct
    clear hct hFT
    go_wp2_with fail
    refine HCC.out.mono ?_; rintro r w5 ⟨rfl, q5, d5, hA5, hr5⟩
    have HA5 := Lib.hid hA5; have HR5 := Lib.hid (HR4.out.trans hr5); have HX5 := Lib.hid (hr5.blk HX4.out hXR hXv).1
    clear hA5 hr5 HCC HA4 HR4 HX4
    obtain ⟨L2, hL2⟩ : ∃ L, ct.l.last = L := ⟨_, rfl⟩
    have HLA2 := Lib.hid (show Calls Tryz.prog 96 #[.pointer (some ⟨R, 0, none⟩)] w5 fun e w' => e = .returned (.tuple #[.int .i64 L2, .int .i64 (lastTerm ct.l)]) ∧ Below w5.heap.size w5 w' from by have := last_act R ct q5 d5 v w5 HA5.out.blk HFT.out.lo.f (EnSl.of_own HA5.out.en); rw [hL2] at this; exact this)
    have HL2 := Lib.hid hL2
    clear hL2
    go_wp2_with fail
    refine HLA2.out.mono ?_; rintro r w6 ⟨rfl, b6⟩
    have HA6 := Lib.hid (HA5.out.keep b6); have HR6 := Lib.hid (HR5.out.trans (AcR.below b6)); have HX6 := Lib.hid (below_block b6 (block_lt HX5.out) HX5.out)
    clear b6 HLA2 HA5 HR5 HX5
    have HAY : Hid (A = if ct.role = 2 ∧ ct.nx n ≤ L2 then bringA ⟨ct, l.map MsX.m⟩ (n : Int) else ⟨ct, l.map MsX.m⟩) := by
      show _ = _
      rw [← HAA.out, ← HL2.out, ← HCT.out, ← HNOTE.out, ← HFR.out]; exact acked_yes HY.out HFR.out
    obtain ⟨nx, hnx⟩ : ∃ nx, ct.nx n = nx := ⟨_, rfl⟩
    rw [hnx] at HAY
    have HNX := Lib.hid hnx
    clear hnx
    go_upto_region 10 with fail
    have h0 : Below w6.heap.size w6 w6.drew := (Below.refl _ _).drew
    refine wp_region_held_drew (S := fun w' => Below w6.heap.size w6 w') (by kernel_rfl) h0 (fun hHeld => ?_)
    obtain ⟨wg, ewd⟩ : ∃ x, w6.drew = x := ⟨_, rfl⟩
    rewrite [ewd] at h0 hHeld ⊢
    have k1 : ∀ w', Below w6.heap.size w6 w' → w'.cell? ⟨R, 1, none⟩ = some (.int .i64 ct.role) := fun w' h => block_cells (below_block h HA6.out.lt HA6.out.blk) 1
    have kx1 : ∀ w', Below w6.heap.size w6 w' → w'.cell? ⟨X, 1, none⟩ = some (.int .i64 (n : Int)) := fun w' h => by rw [← HFR.out]; exact block_cells (below_block h (block_lt HX6.out) HX6.out) 1
    have kn : ∀ w', Below w6.heap.size w6 w' → w'.cell? ⟨R, 25 + n, none⟩ = some (.int .i64 nx) := fun w' h => by rw [← HNX.out]; exact ac_nx (c := ct) (p := q5) (k := d5) (below_block h HA6.out.lt HA6.out.blk) hn10
    clear ewd
    by_cases hro : ct.role = 2
    · have hrb : (ct.role == 2) = true := by simp [hro]
      have HRO := Lib.hid hro
      clear hro
      refine tkH (i := 0) (v := ?_) rfl (Or.inl ⟨by rfl, ?_⟩) hHeld ?_
      rotate_left
      · (intro wz hSw; (try dsimp only at hSw); (try simp only [zA, zC]); go_simp; try with_reducible rfl)
      try simp only [zA, zC, Act.put, zD, zE, zF]
      refine tkH (i := 1) (v := ?_) rfl (Or.inl ⟨by rfl, ?_⟩) hHeld ?_
      rotate_left
      · (intro wz hSw; (try dsimp only at hSw); (try simp only [zA, zB, zC]); go_simp; try with_reducible rfl)
      try simp only [zA, zB, zC, Act.put, zD, zE, zF]
      refine tkH (i := 2) (v := ?_) rfl (Or.inl ⟨by rfl, ?_⟩) hHeld ?_
      rotate_left
      · (intro wz hSw; (try dsimp only at hSw); (try simp only [zA, zB, zC]); go_simp; try with_reducible rfl)
      try simp only [zA, zB, zC, Act.put, zD, zE, zF]
      refine tkH (i := 3) (v := ?_) rfl (Or.inl ⟨by rfl, ?_⟩) hHeld ?_
      rotate_left
      · (intro wz hSw; (try dsimp only at hSw); (try simp only [zA, zB, zC]); go_simp; try with_reducible rfl)
      try simp only [zA, zB, zC, Act.put, zD, zE, zF]
      refine tkH (i := 4) (v := ?_) rfl (Or.inl ⟨by rfl, ?_⟩) hHeld ?_
      rotate_left
      · (intro wz hSw; (try dsimp only at hSw); (try simp only [zA, zB, zC]); go_simp; try with_reducible rfl)
      try simp only [zA, zB, zC, Act.put, zD, zE, zF]
      refine tkH (i := 5) (v := ?_) rfl (Or.inl ⟨by rfl, ?_⟩) hHeld ?_
      rotate_left
      · (intro wz hSw; (try dsimp only at hSw); (try simp only [zA, zB, zC]); go_simp; try with_reducible rfl)
      try simp only [zA, zB, zC, Act.put, zD, zE, zF]
      refine tkH (i := 6) (v := ?_) rfl (Or.inl ⟨by rfl, ?_⟩) hHeld ?_
      rotate_left
      · (intro wz hSw; (try dsimp only at hSw); (try simp only [zA, zB, zC]); go_simp; try with_reducible rfl)
      try simp only [zA, zB, zC, Act.put, zD, zE, zF]
      refine tkH (i := 7) (v := ?_) rfl (Or.inl ⟨by rfl, ?_⟩) hHeld ?_
      rotate_left
      · (intro wz hSw; (try dsimp only at hSw); (try simp only [zA, zB, zC]); go_simp; try with_reducible rfl)
      try simp only [zA, zB, zC, Act.put, zD, zE, zF]
      refine tkH (i := 8) (v := ?_) rfl (Or.inl ⟨by rfl, ?_⟩) hHeld ?_
      rotate_left
      · (intro wz hSw; (try dsimp only at hSw); (try simp only [zA, zB, zC]); go_simp; try with_reducible rfl)
      try simp only [zA, zB, zC, Act.put, zD, zE, zF]
      refine tkH (i := 9) (v := ?_) rfl (Or.inl ⟨by rfl, ?_⟩) hHeld ?_
      rotate_left
      · (intro wz hSw; (try dsimp only at hSw); (try simp only [zA, zB, zC]); go_simp; try with_reducible rfl)
      try simp only [zA, zB, zC, Act.put, zD, zE, zF]
      refine tkH (i := 10) (v := ?_) rfl (Or.inl ⟨by rfl, ?_⟩) hHeld ?_
      rotate_left
      · (intro wz hSw; (try dsimp only at hSw); (try simp only [zA, zB, zC]); go_simp; try with_reducible rfl)
      try simp only [zA, zB, zC, Act.put, zD, zE, zF]
      refine tkH (i := 11) (v := ?_) rfl (Or.inl ⟨by rfl, ?_⟩) hHeld ?_
      rotate_left
      · (intro wz hSw; (try dsimp only at hSw); (try simp only [zA, zB, zC]); go_simp; try with_reducible rfl)
      try simp only [zA, zB, zC, Act.put, zD, zE, zF]
      refine tkH (i := 12) (v := ?_) rfl (Or.inl ⟨by rfl, ?_⟩) hHeld ?_
      rotate_left
      · (intro wz hSw; (try dsimp only at hSw); (try simp only [zA, zB, zC]); go_simp; try with_reducible rfl)
      try simp only [zA, zB, zC, Act.put, zD, zE, zF]
      refine tkH (i := 13) (v := ?_) rfl (Or.inl ⟨by rfl, ?_⟩) hHeld ?_
      rotate_left
      · (intro wz hSw; (try dsimp only at hSw); (try simp only [zA, zB, zC]); go_simp; try with_reducible rfl)
      try simp only [zA, zB, zC, Act.put, zD, zE, zF]
      refine tkH (i := 14) (v := ?_) rfl (Or.inl ⟨by rfl, ?_⟩) hHeld ?_
      rotate_left
      · (intro wz hSw; (try dsimp only at hSw); (try simp only [zA, zB, zC]); go_simp; try with_reducible rfl)
      try simp only [zA, zB, zC, Act.put, zD, zE, zF]
      refine tkH (i := 15) (v := ?_) rfl (Or.inl ⟨by rfl, ?_⟩) hHeld ?_
      rotate_left
      · (intro wz hSw; (try dsimp only at hSw); (try simp only [zA, zB, zC]); go_simp; try with_reducible rfl)
      try simp only [zA, zB, zC, Act.put, zD, zE, zF]
      refine tkH (i := 16) (v := ?_) rfl (Or.inl ⟨by rfl, ?_⟩) hHeld ?_
      rotate_left
      · (intro wz hSw; (try dsimp only at hSw); (try simp only [zA, zB, zC]); go_simp; try with_reducible rfl)
      try simp only [zA, zB, zC, Act.put, zD, zE, zF]
      by_cases hle : nx ≤ L2
      · have hlb : decide (nx ≤ L2) = true := by simp [hle]
        have HZ : Hid (A = bringA ⟨ct, l.map MsX.m⟩ (n : Int)) := by show _ = _; rw [HAY.out]; exact if_pos ⟨HRO.out, hle⟩
        refine tkH (i := 17) (v := ?_) rfl (Or.inl ⟨by rfl, ?_⟩) hHeld ?_
        rotate_left
        · (intro wz hSw; (try dsimp only at hSw); (try simp only [zA, zB, zC]); go_simp; try with_reducible rfl)
        try simp only [zA, zB, zC, Act.put, zD, zE, zF]
        refine wpAnyH_done (by kernel_rfl) ?_ _
        have HA7 := Lib.hid (HA6.out.keep h0); have HR7 := Lib.hid (HR6.out.trans (AcR.below h0))
        have kz := kx1 wg h0
        clear hHeld k1 kx1 kn h0
        have HBR := Lib.hid (bring_act B R n ct q5 d5 v l wg HA7.out HFT.out.lo.f hn10 (HFT.out.nx n hn10) (by have := HLL.out; omega))
        go_wp2_with fail
        refine HBR.out.mono ?_; rintro r w8 ⟨rfl, v8, q8, d8, hA8, hr8⟩
        have HO : Hid (AcDo 69 B w R v A (.returned (.tuple #[])) w8) := AcDo.sent (HZ.out.trans (bringA_eq _ _ _)) hA8 (HR7.out.trans hr8)
        clear hA8 hr8 HBR
        go_wp2_with fail
        first | go_end0 | refine bodyPost_ret (results_none rfl _ _ _) rfl ?_
        exact HO.out
      · have hlb : decide (nx ≤ L2) = false := by simp; omega
        have HZ : Hid (A = ⟨ct, l.map MsX.m⟩) := by show _ = _; rw [HAY.out]; exact if_neg (fun h => hle h.2)
        refine tkH (i := 17) (v := ?_) rfl (Or.inl ⟨by rfl, ?_⟩) hHeld ?_
        rotate_left
        · (intro wz hSw; (try dsimp only at hSw); (try simp only [zA, zB, zC]); go_simp; try with_reducible rfl)
        try simp only [zA, zB, zC, Act.put, zD, zE, zF]
        refine wpAnyH_done (by kernel_rfl) ?_ _
        have HO : Hid (AcDo 69 B w R v A (.returned (.tuple #[])) wg) := ⟨rfl, v, q5, d5, l, by rw [HZ.out], by rw [HZ.out]; exact HA6.out.keep h0, HR6.out.trans (AcR.below h0)⟩
        clear hHeld k1 kx1 kn h0
        go_wp2_with fail
        first | go_end0 | refine bodyPost_ret (results_none rfl _ _ _) rfl ?_
        exact HO.out
    · have hrb : (ct.role == 2) = false := by simp [hro]
      have HZ : Hid (A = ⟨ct, l.map MsX.m⟩) := by show _ = _; rw [HAY.out]; exact if_neg (fun h => hro h.1)
      clear hro
      refine tkH (i := 0) (v := ?_) rfl (Or.inl ⟨by rfl, ?_⟩) hHeld ?_
      rotate_left
      · (intro wz hSw; (try dsimp only at hSw); (try simp only [zA, zC]); go_simp; try with_reducible rfl)
      try simp only [zA, zC, Act.put, zD, zE, zF]
      refine tkH (i := 1) (v := ?_) rfl (Or.inl ⟨by rfl, ?_⟩) hHeld ?_
      rotate_left
      · (intro wz hSw; (try dsimp only at hSw); (try simp only [zA, zB, zC]); go_simp; try with_reducible rfl)
      try simp only [zA, zB, zC, Act.put, zD, zE, zF]
      refine tkH (i := 2) (v := ?_) rfl (Or.inl ⟨by rfl, ?_⟩) hHeld ?_
      rotate_left
      · (intro wz hSw; (try dsimp only at hSw); (try simp only [zA, zB, zC]); go_simp; try with_reducible rfl)
      try simp only [zA, zB, zC, Act.put, zD, zE, zF]
      refine tkH (i := 3) (v := ?_) rfl (Or.inl ⟨by rfl, ?_⟩) hHeld ?_
      rotate_left
      · (intro wz hSw; (try dsimp only at hSw); (try simp only [zA, zB, zC]); go_simp; try with_reducible rfl)
      try simp only [zA, zB, zC, Act.put, zD, zE, zF]
      refine tkH (i := 4) (v := ?_) rfl (Or.inl ⟨by rfl, ?_⟩) hHeld ?_
      rotate_left
      · (intro wz hSw; (try dsimp only at hSw); (try simp only [zA, zB, zC]); go_simp; try with_reducible rfl)
      try simp only [zA, zB, zC, Act.put, zD, zE, zF]
      refine tkH (i := 5) (v := ?_) rfl (Or.inl ⟨by rfl, ?_⟩) hHeld ?_
      rotate_left
      · (intro wz hSw; (try dsimp only at hSw); (try simp only [zA, zB, zC]); go_simp; try with_reducible rfl)
      try simp only [zA, zB, zC, Act.put, zD, zE, zF]
      refine tkH (i := 6) (v := ?_) rfl (Or.inl ⟨by rfl, ?_⟩) hHeld ?_
      rotate_left
      · (intro wz hSw; (try dsimp only at hSw); (try simp only [zA, zB, zC]); go_simp; try with_reducible rfl)
      try simp only [zA, zB, zC, Act.put, zD, zE, zF]
      refine tkH (i := 7) (v := undef) rfl (Or.inr ⟨by rfl, rfl⟩) hHeld ?_
      try simp only [zA, zB, zC, Act.put, zD, zE, zF]
      refine tkH (i := 8) (v := undef) rfl (Or.inr ⟨by rfl, rfl⟩) hHeld ?_
      try simp only [zA, zB, zC, Act.put, zD, zE, zF]
      refine tkH (i := 9) (v := undef) rfl (Or.inr ⟨by rfl, rfl⟩) hHeld ?_
      try simp only [zA, zB, zC, Act.put, zD, zE, zF]
      refine tkH (i := 10) (v := undef) rfl (Or.inr ⟨by rfl, rfl⟩) hHeld ?_
      try simp only [zA, zB, zC, Act.put, zD, zE, zF]
      refine tkH (i := 11) (v := undef) rfl (Or.inr ⟨by rfl, rfl⟩) hHeld ?_
      try simp only [zA, zB, zC, Act.put, zD, zE, zF]
      refine tkH (i := 12) (v := undef) rfl (Or.inr ⟨by rfl, rfl⟩) hHeld ?_
      try simp only [zA, zB, zC, Act.put, zD, zE, zF]
      refine tkH (i := 13) (v := undef) rfl (Or.inr ⟨by rfl, rfl⟩) hHeld ?_
      try simp only [zA, zB, zC, Act.put, zD, zE, zF]
      refine tkH (i := 14) (v := undef) rfl (Or.inr ⟨by rfl, rfl⟩) hHeld ?_
      try simp only [zA, zB, zC, Act.put, zD, zE, zF]
      refine tkH (i := 15) (v := undef) rfl (Or.inr ⟨by rfl, rfl⟩) hHeld ?_
      try simp only [zA, zB, zC, Act.put, zD, zE, zF]
      refine tkH (i := 16) (v := undef) rfl (Or.inr ⟨by rfl, rfl⟩) hHeld ?_
      try simp only [zA, zB, zC, Act.put, zD, zE, zF]
      refine tkH (i := 17) (v := ?_) rfl (Or.inl ⟨by rfl, ?_⟩) hHeld ?_
      rotate_left
      · (intro wz hSw; (try dsimp only at hSw); (try simp only [zA, zB, zC]); go_simp; try with_reducible rfl)
      try simp only [zA, zB, zC, Act.put, zD, zE, zF]
      refine wpAnyH_done (by kernel_rfl) ?_ _
      have HO : Hid (AcDo 69 B w R v A (.returned (.tuple #[])) wg) := ⟨rfl, v, q5, d5, l, by rw [HZ.out], by rw [HZ.out]; exact HA6.out.keep h0, HR6.out.trans (AcR.below h0)⟩
      clear hHeld k1 kx1 kn h0
      go_wp2_with fail
      first | go_end0 | refine bodyPost_ret (results_none rfl _ _ _) rfl ?_
      exact HO.out
end Go.Proofs.YtbnndbdnejfehaaGreatDoor
