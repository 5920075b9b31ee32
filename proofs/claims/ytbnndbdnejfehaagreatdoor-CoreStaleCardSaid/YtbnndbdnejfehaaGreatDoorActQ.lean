import Derived.Test.YtbnndbdnejfehaaGreatDoorActN0
import Derived.Test.YtbnndbdnejfehaaGreatDoorActN
import Derived.Test.YtbnndbdnejfehaaGreatDoorActL
/- Core: methods of a run (the reference's): the least number that all voters have. -/
namespace Go.Proofs.YtbnndbdnejfehaaGreatDoor
open Go.ChangeShapes Go.WideShapes Go.ChangeAt Go.RowKit

end Go.Proofs.YtbnndbdnejfehaaGreatDoor
/- Core: methods of a run (the reference's): what is committed now. -/
namespace Go.Proofs.YtbnndbdnejfehaaGreatDoor
open Go.ChangeShapes Go.WideShapes Go.ChangeAt Go.RowKit

end Go.Proofs.YtbnndbdnejfehaaGreatDoor
/- Core: methods of an act: it leads (the program's, the reference's). -/
namespace Go.Proofs.YtbnndbdnejfehaaGreatDoor
open Go.ChangeShapes Go.WideShapes Go.ChangeAt Go.RowKit

def winC (c : Co) : Co := countsC (pushC (leadC c) ent0)
theorem wins_eq (c : Co) (o : List Ms) : winsA ⟨c, o⟩ = ⟨winC c, o ++ allM (winC c)⟩ := allA_eq _ _
theorem CoFit.win {N : Nat} {c : Co} (h : CoFit N c) (hN : N < 999990) : CoFit (N + 2) (winC c) := (h.lead.push (by omega) ent0_ok).counts (by omega)
/-- All Next and Match up to a number are set. -/
def ldF (L : Int) (c : Co) : Nat → Co
  | 0 => c
  | n + 1 => { ldF L c n with nx := upd (ldF L c n).nx n L, mt := upd (ldF L c n).mt n 0 }
theorem coL_ext {c d : Co} (p : Option Addr) (k : Nat) (h : { c with nx := d.nx, mt := d.mt } = d) (hn : ∀ i, i < 10 → c.nx i = d.nx i) (hm : ∀ i, i < 10 → c.mt i = d.mt i) : coL c p k = coL d p k := by
  have e : coL { c with nx := d.nx, mt := d.mt } p k = coL d p k := by rw [h]
  refine Eq.trans ?_ e
  unfold coL
  simp only [hn 0 (by decide), hn 1 (by decide), hn 2 (by decide), hn 3 (by decide), hn 4 (by decide), hn 5 (by decide), hn 6 (by decide), hn 7 (by decide), hn 8 (by decide), hn 9 (by decide), hm 0 (by decide), hm 1 (by decide), hm 2 (by decide), hm 3 (by decide), hm 4 (by decide), hm 5 (by decide), hm 6 (by decide), hm 7 (by decide), hm 8 (by decide), hm 9 (by decide)]
theorem ldF_rest (L : Int) (c : Co) (f g : Nat → Int) : ∀ n, { ldF L c n with nx := f, mt := g } = { c with nx := f, mt := g }
  | 0 => rfl
  | n + 1 => ldF_rest L c f g n
theorem ldF_in (L : Int) (c : Co) : ∀ n i, i < n → (ldF L c n).nx i = L ∧ (ldF L c n).mt i = 0
  | 0, _, h => by omega
  | n + 1, i, h => by
    show upd (ldF L c n).nx n L i = L ∧ upd (ldF L c n).mt n 0 i = 0
    unfold upd
    by_cases e : i = n
    · rw [if_pos e, if_pos e]; exact ⟨rfl, rfl⟩
    · rw [if_neg e, if_neg e]; exact ldF_in L c n i (by omega)
theorem ldF_all (L : Int) (c : Co) (p : Option Addr) (k : Nat) : coL (ldF L c 10) p k = coL { c with nx := fun _ => L, mt := fun _ => 0 } p k :=
  coL_ext p k (ldF_rest L c _ _ 10) (fun i hi => (ldF_in L c 10 i hi).1) (fun i hi => (ldF_in L c 10 i hi).2)
theorem ldF_l (L : Int) (c : Co) : ∀ n, (ldF L c n).l = c.l
  | 0 => rfl
  | n + 1 => ldF_l L c n
theorem AcW.alike {T : TypeId} {B R : Nat} {w : World} {x y : CoX} {v : Value} {l : List MsX} (h : AcW T B w R x v l) (hv : y.v = x.v) (hl : y.c.l = x.c.l) (hp : y.p = x.p) (hk : y.k = x.k) : AcW T B w R y v l :=
  ⟨h.le, by rw [hv]; exact h.blk, h.ne, by have := h.en; unfold CoOwn at this ⊢; rw [hl, hp, hk]; exact this, h.out, fun z hz b hb => by have := h.sep z hz b hb; unfold CoX.bk at this ⊢; rw [hl, hp, hk]; exact this⟩

/-- The first cells of a block. -/
structure R25 (R : Nat) (cs : Array Value) (w' : World) : Prop where
  r : ∀ j, j < 25 → w'.cell? ⟨R, j, none⟩ = cs[j]?
set_option maxRecDepth 100000 in
set_option maxHeartbeats 16000000 in
theorem wins_act (B R N : Nat) (c : Co) (p : Option Addr) (k : Nat) (v : Value) (l : List MsX) (w : World) (h : AcW 69 B w R ⟨c, p, k⟩ v l) (hB : 0 < B) (hT : Tab w) (hF : CoFit N c) (hN : N < 600000) (hl : l.length ≤ 80000) :
    Calls Tryz.prog 43 #[.pointer (some ⟨R, 0, none⟩)] w fun e w' => e = .returned (.tuple #[]) ∧ ∃ v' q d l', l'.map MsX.m = l.map MsX.m ++ allM (winC c) ∧ AcW 69 B w' R ⟨winC c, q, d⟩ v' l' ∧ AcR w w' R v v' := by
  obtain ⟨X, hX⟩ : ∃ X, c.l.last = X := ⟨_, rfl⟩
  have hXb : 0 ≤ X ∧ X ≤ 1152921504607846976 := by have := hF.lo.f.b0; have := hF.lo.f.b1; have := hF.lo.f.n; rw [← hX]; unfold Lg.last; omega
  obtain ⟨cb, hcb⟩ : ∃ cb : Co, { c with role := 2, ld := c.id, wt := 0, hd := 0 } = cb := ⟨_, rfl⟩
  have hcl : coL (leadC c) p k = coL (ldF (X + 1) cb 10) p k := by rw [ldF_all, ← hcb, ← hX]; rfl
  have hcbl : cb.l = c.l := by rw [← hcb]
  have HCL := Lib.hid hcl; have HCB := Lib.hid hcb; have HCBL := Lib.hid hcbl
  have HF : Hid (CoFit N c) := hF; have HA0 := Lib.hid h; have HNN := Lib.hid hN; have HLL := Lib.hid hl; have HX := Lib.hid hX
  have HB0 := Lib.hid hB; have HT := Lib.hid hT
  have HLA := Lib.hid (show Calls Tryz.prog 96 #[.pointer (some ⟨R, 0, none⟩)] w fun e w' => e = .returned (.tuple #[.int .i64 X, .int .i64 (lastTerm c.l)]) ∧ Below w.heap.size w w' from by have := last_act R c p k v w h.blk hF.lo.f (EnSl.of_own h.en); rw [hX] at this; exact this)
  clear h hB hT hF hN hl hX hcl hcb hcbl
  go_enter Tryz.func43, Tryz.ntmps43
  go_wp2_with fail
  refine HLA.out.mono ?_; rintro r w0 ⟨rfl, b0⟩
  have hA := HA0.out.keep b0
  have HR := Lib.hid (AcR.below (R := R) (v := v) b0)
  clear HLA b0
  have hp1 := hA.put 1 (.int .i64 2) (by decide) ⟨{ c with role := 2 }, p, k⟩ rfl rfl rfl rfl
  have hp2 := hp1.1.put 4 (.int .i64 c.id) (by decide) ⟨{ c with role := 2, ld := c.id }, p, k⟩ rfl rfl rfl rfl
  have hp3 := hp2.1.put 5 (.int .i64 0) (by decide) ⟨{ c with role := 2, ld := c.id, wt := 0 }, p, k⟩ rfl rfl rfl rfl
  have hp4 := hp3.1.put 24 (.int .u16 0) (by decide) ⟨{ c with role := 2, ld := c.id, wt := 0, hd := 0 }, p, k⟩ rfl rfl rfl rfl
  rw [HCB.out] at hp4
  have k0 : w0.cell? ⟨R, 0, none⟩ = some (.int .i64 c.id) := block_cells hA.blk 0
  have k1 : w0.cell? ⟨R, 1, none⟩ = some (.int .i64 c.role) := block_cells hA.blk 1
  have f1 : w0.frozen? ⟨R, 1, none⟩ = false := block_free hA.blk 1
  have k4 : (w0.setCell ⟨R, 1, none⟩ (.int .i64 2)).cell? ⟨R, 4, none⟩ = some (.int .i64 c.ld) := block_cells hp1.1.blk 4
  have f4 : (w0.setCell ⟨R, 1, none⟩ (.int .i64 2)).frozen? ⟨R, 4, none⟩ = false := block_free hp1.1.blk 4
  have k5 : ((w0.setCell ⟨R, 1, none⟩ (.int .i64 2)).setCell ⟨R, 4, none⟩ (.int .i64 c.id)).cell? ⟨R, 5, none⟩ = some (.int .i64 c.wt) := block_cells hp2.1.blk 5
  have f5 : ((w0.setCell ⟨R, 1, none⟩ (.int .i64 2)).setCell ⟨R, 4, none⟩ (.int .i64 c.id)).frozen? ⟨R, 5, none⟩ = false := block_free hp2.1.blk 5
  have k24 : (((w0.setCell ⟨R, 1, none⟩ (.int .i64 2)).setCell ⟨R, 4, none⟩ (.int .i64 c.id)).setCell ⟨R, 5, none⟩ (.int .i64 0)).cell? ⟨R, 24, none⟩ = some (.int .u16 c.hd) := block_cells hp3.1.blk 24
  have f24 : (((w0.setCell ⟨R, 1, none⟩ (.int .i64 2)).setCell ⟨R, 4, none⟩ (.int .i64 c.id)).setCell ⟨R, 5, none⟩ (.int .i64 0)).frozen? ⟨R, 24, none⟩ = false := block_free hp3.1.blk 24
  have HA1 := Lib.hid hp4.1; have HR1 := Lib.hid ((((HR.out.trans hp1.2).trans hp2.2).trans hp3.2).trans hp4.2)
  clear hA hp1 hp2 hp3 hp4 HR
  go_upto_region 2 with fail
  obtain ⟨W1, hW1⟩ : ∃ z : World, (((w0.setCell ⟨R, 1, none⟩ (.int .i64 2)).setCell ⟨R, 4, none⟩ (.int .i64 c.id)).setCell ⟨R, 5, none⟩ (.int .i64 0)).setCell ⟨R, 24, none⟩ (.int .u16 0) = z := ⟨_, rfl⟩
  rw [hW1] at HA1 HR1 ⊢
  clear hW1 k0 k1 f1 k4 f4 k5 f5 k24 f24
  go_wp2_with fail
  go_loopw [31] (fun i wr => ∃ n : Nat, n ≤ 10 ∧ i = .int .i64 (n : Int) ∧ Hid (AcW 69 B wr R ⟨ldF (X + 1) cb n, p, k⟩ v l ∧ AcR w wr R v v)) (fun i _ => 10 - (intOf i).toNat)
  case atStart => exact ⟨0, by omega, rfl, HA1.out, HR1.out⟩
  case round =>
    obtain ⟨n, hn, rfl, HS⟩ := hrel
    obtain ⟨wk, rfl⟩ : ∃ wk : World, wk = wr := ⟨_, rfl⟩
    by_cases hlt : n < 10
    · have hd : decide ((n : Int) < 10) = true := by simp; omega
      have hn0 : 0 ≤ (n : Int) := by omega
      have hn1 : (n : Int) < 10 := by omega
      obtain ⟨cn, hcn⟩ : ∃ cn, ldF (X + 1) cb n = cn := ⟨_, rfl⟩
      have hnx : ldF (X + 1) cb (n + 1) = { cn with nx := upd cn.nx n (X + 1), mt := upd cn.mt n 0 } := by rw [ldF, hcn]
      have hcnl : cn.l = c.l := by rw [← hcn, ldF_l]; exact HCBL.out
      have hwr : IntKind.i64.wrap (X + 1) = X + 1 := by rw [IntKind.wrap_i64]; omega
      have HNX := Lib.hid hnx; have HCNL := Lib.hid hcnl
      rw [hcn] at HS
      clear hnx hcn hcnl
      go_upto_region 5 with fail
      have hA := HS.out.1.keep (Below.refl _ _).drew
      have hr := HS.out.2.drew
      obtain ⟨wd, ewd⟩ : ∃ x, wk.drew = x := ⟨_, rfl⟩
      refine wp_region_held_drew (S := fun _ => True) (by kernel_rfl) trivial (fun hHeld => ?_)
      rewrite [ewd] at hA hr ⊢
      clear ewd HS
      have hp1 := hA.put (25 + n) (.int .i64 (X + 1)) (by omega) ⟨{ cn with nx := upd cn.nx n (X + 1) }, p, k⟩ (nx_set cn p k hlt (X + 1)) rfl rfl rfl
      have hp2 := hp1.1.put (35 + n) (.int .i64 0) (by omega) ⟨{ cn with nx := upd cn.nx n (X + 1), mt := upd cn.mt n 0 }, p, k⟩ (mt_set { cn with nx := upd cn.nx n (X + 1) } p k hlt 0) rfl rfl rfl
      have kN := ac_nx (c := cn) (p := p) (k := k) hA.blk hlt
      have fN := block_free hA.blk (25 + n)
      have kM := ac_mt (c := { cn with nx := upd cn.nx n (X + 1) }) (p := p) (k := k) hp1.1.blk hlt
      have fM := block_free hp1.1.blk (35 + n)
      have HS2 := Lib.hid (And.intro hp2.1 ((hr.trans hp1.2).trans hp2.2))
      clear hA hr hp1 hp2
      refine tkH (i := 0) (v := ?_) rfl (Or.inl ⟨by rfl, ?_⟩) hHeld ?_
      rotate_left
      · (intro wz hSw; (try dsimp only at hSw); (try simp only [zA, zC]); go_simp; try with_reducible rfl)
      try simp only [zA, zC, Act.put, zD, zE, zF]
      refine tkH (i := 1) (v := ?_) rfl (Or.inl ⟨by rfl, ?_⟩) hHeld ?_
      rotate_left
      · (intro wz hSw; (try dsimp only at hSw); (try simp only [zA, zB, zC]); go_simp; try with_reducible rfl)
      try simp only [zA, zB, zC, Act.put, zD, zE, zF]
      refine tkH (i := 2) (v := ?_) rfl (Or.inl ⟨by rfl, ?_⟩) hHeld ?_
      rotate_left
      · (intro wz hSw; (try dsimp only at hSw); (try simp only [zA, zB, zC]); go_simp; try with_reducible rfl)
      try simp only [zA, zB, zC, Act.put, zD, zE, zF]
      refine tkH (i := 3) (v := ?_) rfl (Or.inl ⟨by rfl, ?_⟩) hHeld ?_
      rotate_left
      · (intro wz hSw; (try dsimp only at hSw); (try simp only [zA, zB, zC]); go_simp; try with_reducible rfl)
      try simp only [zA, zB, zC, Act.put, zD, zE, zF]
      refine tkH (i := 4) (v := ?_) rfl (Or.inl ⟨by rfl, ?_⟩) hHeld ?_
      rotate_left
      · (intro wz hSw; (try dsimp only at hSw); (try simp only [zA, zB, zC]); go_simp; try with_reducible rfl)
      try simp only [zA, zB, zC, Act.put, zD, zE, zF]
      refine tkH (i := 5) (v := ?_) rfl (Or.inl ⟨by rfl, ?_⟩) hHeld ?_
      rotate_left
      · (intro wz hSw; (try dsimp only at hSw); (try simp only [zA, zB, zC]); go_simp; try with_reducible rfl)
      try simp only [zA, zB, zC, Act.put, zD, zE, zF]
      refine tkH (i := 6) (v := ?_) rfl (Or.inl ⟨by rfl, ?_⟩) hHeld ?_
      rotate_left
      · (intro wz hSw; (try dsimp only at hSw); (try simp only [zA, zB, zC]); go_simp; try with_reducible rfl)
      try simp only [zA, zB, zC, Act.put, zD, zE, zF]
      refine tkH (i := 7) (v := ?_) rfl (Or.inl ⟨by rfl, ?_⟩) hHeld ?_
      rotate_left
      · (intro wz hSw; (try dsimp only at hSw); (try simp only [zA, zB, zC]); go_simp; try with_reducible rfl)
      try simp only [zA, zB, zC, Act.put, zD, zE, zF]
      refine tkH (i := 8) (v := ?_) rfl (Or.inl ⟨by rfl, ?_⟩) hHeld ?_
      rotate_left
      · (intro wz hSw; (try dsimp only at hSw); (try simp only [zA, zB, zC]); go_simp; try with_reducible rfl)
      try simp only [zA, zB, zC, Act.put, zD, zE, zF]
      refine tkH (i := 9) (v := ?_) rfl (Or.inl ⟨by rfl, ?_⟩) hHeld ?_
      rotate_left
      · (intro wz hSw; (try dsimp only at hSw); (try simp only [zA, zB, zC]); go_simp; try with_reducible rfl)
      try simp only [zA, zB, zC, Act.put, zD, zE, zF]
      refine tkH (i := 11) (v := ?_) rfl (Or.inl ⟨by rfl, ?_⟩) hHeld ?_
      rotate_left
      · (intro wz hSw; (try dsimp only at hSw); (try simp only [zA, zB, zC]); go_simp; try with_reducible rfl)
      try simp only [zA, zB, zC, Act.put, zD, zE, zF]
      refine tkH (i := 12) (v := ?_) rfl (Or.inl ⟨by rfl, ?_⟩) hHeld ?_
      rotate_left
      · (intro wz hSw; (try dsimp only at hSw); (try simp only [zA, zB, zC]); go_simp; try with_reducible rfl)
      try simp only [zA, zB, zC, Act.put, zD, zE, zF]
      refine tkH (i := 13) (v := ?_) rfl (Or.inl ⟨by rfl, ?_⟩) hHeld ?_
      rotate_left
      · (intro wz hSw; (try dsimp only at hSw); (try simp only [zA, zB, zC]); go_simp; try with_reducible rfl)
      try simp only [zA, zB, zC, Act.put, zD, zE, zF]
      refine wpAnyH_ready (rs := [10]) (by kernel_rfl) (by simp) ?_; refine AllReadyH.cons rfl (fun K hK => ?_) AllReadyH.nil
      try simp only [zA, zB, zC]
      go_simp
      refine hK.out _ _ trivial (fun _ => ?_)
      clear hK K kN fN
      obtain ⟨we, hwe⟩ : ∃ z : World, wd.setCell ⟨R, 25 + n, none⟩ (.int .i64 (X + 1)) = z := ⟨_, rfl⟩
      rewrite [hwe] at kM fM HS2 ⊢
      clear hwe
      try simp only [zA, zB, zC, Act.put, zD, zE, zF]
      refine tkH (i := 14) (v := ?_) rfl (Or.inl ⟨by rfl, ?_⟩) hHeld ?_
      rotate_left
      · (intro wz hSw; (try dsimp only at hSw); (try simp only [zA, zB, zC]); go_simp; try with_reducible rfl)
      try simp only [zA, zB, zC, Act.put, zD, zE, zF]
      refine wpAnyH_ready (rs := [15]) (by kernel_rfl) (by simp) ?_; refine AllReadyH.cons rfl (fun K hK => ?_) AllReadyH.nil
      try simp only [zA, zB, zC]
      go_simp
      refine hK.out _ _ trivial (fun _ => ?_)
      clear hK K hHeld kM fM
      try simp only [zA, zB, zC, Act.put, zD, zE, zF]
      refine wpAnyH_done (by kernel_rfl) ?_ _
      go_wp2_with fail
      go_roundw
      case rel => exact ⟨n + 1, by omega, by go_num, by rw [HNX.out]; exact HS2⟩
      case measure => simp [intOf]; omega
    · obtain rfl : n = 10 := by omega
      have hd : decide ((10 : Int) < 10) = false := by simp
      obtain ⟨cl, hcl⟩ : ∃ cl, leadC c = cl := ⟨_, rfl⟩
      have hAL : AcW 69 B wk R ⟨cl, p, k⟩ v l := HS.out.1.alike (by rw [← hcl]; exact HCL.out) (by rw [← hcl, ldF_l]; exact HCBL.out.symm) rfl rfl
      have HFL : Hid (CoFit N cl) := by show CoFit N cl; rw [← hcl]; exact HF.out.lead
      have HR2 := Lib.hid HS.out.2
      have HID := Lib.hid (show cl.id = ((cl.id.toNat : Nat) : Int) ∧ cl.id.toNat < 10 from by have := HFL.out.id0; have := HFL.out.id1; omega)
      have HPU := Lib.hid (show Calls Tryz.prog 77 #[.pointer (some ⟨R, 0, none⟩), .agg #[.int .i64 0, .int .i64 0, .string ⟨#[]⟩, .int .u16 0, .int .u16 0, .int .u16 0, .int .i64 0, .int .i64 0, .int .u16 0, .int .u16 0, .int .u16 0, .int .i64 0, .int .i64 0, .bool false]] wk fun r w' => r = .returned (.int .i64 (cl.l.last + 1)) ∧ ∃ q d, AcW 69 B w' R ⟨pushC cl ent0, q, d⟩ v l ∧ AcR wk w' R v v from push_act B R cl.id.toNat cl p k v l ent0 wk hAL HFL.out.lo.f HID.out.1 HID.out.2 (by have := HFL.out.n; have := HNN.out; omega))
      have HWC : Hid (winC c = countsC (pushC cl ent0)) := by show _ = _; unfold winC; rw [hcl]
      clear HS hcl hAL
      go_wp2_with fail
      refine HPU.out.mono ?_; rintro r w2 ⟨rfl, q2, d2, hA2, hr2⟩
      have HR3 := Lib.hid (HR2.out.trans hr2)
      have HFP : Hid (CoFit (N + 1) (pushC cl ent0)) := HFL.out.push (by have := HNN.out; omega) ent0_ok
      have HCO := Lib.hid (counts_act B R (N + 1) (pushC cl ent0) q2 d2 v l w2 hA2 HB0.out (HA0.out.tab HB0.out HT.out HR3.out) HFP.out (by have := HNN.out; omega))
      clear hA2 hr2 HPU HR2
      go_wp2_with fail
      refine HCO.out.mono ?_; rintro r w3 ⟨rfl, q3, d3, hA3, hr3⟩
      rewrite [← HWC.out] at hA3
      have HR4 := Lib.hid (HR3.out.trans hr3)
      have HFW := Lib.hid (show CoFit (N + 2) (winC c) from HF.out.win (by have := HNN.out; omega))
      have HAL := Lib.hid (all_act B R (winC c) q3 d3 v l w3 hA3 HFW.out.lo.f (HA0.out.tab HB0.out HT.out HR4.out) HFW.out.nx (by have := HLL.out; omega))
      clear hA3 hr3 HCO HR3
      go_wp2_with fail
      refine HAL.out.mono ?_; rintro r w4 ⟨rfl, v4, l4, hl4, hA4, hr4⟩
      have HO := Lib.hid (And.intro hl4 (And.intro hA4 (HR4.out.trans hr4)))
      clear hl4 hA4 hr4 HAL
      go_wp2_with fail
      first | go_end0 | refine bodyPost_ret (results_none rfl _ _ _) rfl ?_
      exact ⟨rfl, v4, q3, d3, l4, HO.out.1, HO.out.2.1, HO.out.2.2⟩
end Go.Proofs.YtbnndbdnejfehaaGreatDoor
