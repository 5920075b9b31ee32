import Derived.Test.YtbnndbdnejfehaaGreatDoorActN
import Derived.Test.YtbnndbdnejfehaaGreatDoorActP
import Derived.Test.YtbnndbdnejfehaaGreatDoorActN0
import Derived.Test.YtbnndbdnejfehaaGreatDoorLogG
import Derived.Test.YtbnndbdnejfehaaGreatDoorLogP
import Derived.Test.YtbnndbdnejfehaaGreatDoorHardH
/- Core: methods of an act: it leads (the program's, the reference's). -/
namespace Go.Proofs.YtbnndbdnejfehaaGreatDoor
open Go.ChangeShapes Go.WideShapes Go.ChangeAt Go.RowKit

def winC (c : Co) : Co := countsC (pushC (leadC c) ent0)
theorem wins_eq (c : Co) (o : List Ms) : winsA ⟨c, o⟩ = ⟨winC c, o ++ allM (winC c)⟩ := allA_eq _ _
theorem CoFit.win {N : Nat} {c : Co} (h : CoFit N c) (hN : N < 999990) : CoFit (N + 2) (winC c) := (h.lead.push (by omega) ent0_ok).counts (by omega)
/-- All Next and Match up to a number are set. -/
def ldF (L : Int) (c : Co) : Nat → Co
  | 0 => c
  | n + 1 => { ldF L c n with nx := upd (ldF L c n).nx n L, mt := upd (ldF L c n).mt n 0 }
theorem coL_ext {c d : Co} (p : Option Addr) (k : Nat) (h : { c with nx := d.nx, mt := d.mt } = d) (hn : ∀ i, i < 10 → c.nx i = d.nx i) (hm : ∀ i, i < 10 → c.mt i = d.mt i) : coL c p k = coL d p k := by
  have e : coL { c with nx := d.nx, mt := d.mt } p k = coL d p k := by rw [h]
  refine Eq.trans ?_ e
  unfold coL
  simp only [hn 0 (by decide), hn 1 (by decide), hn 2 (by decide), hn 3 (by decide), hn 4 (by decide), hn 5 (by decide), hn 6 (by decide), hn 7 (by decide), hn 8 (by decide), hn 9 (by decide), hm 0 (by decide), hm 1 (by decide), hm 2 (by decide), hm 3 (by decide), hm 4 (by decide), hm 5 (by decide), hm 6 (by decide), hm 7 (by decide), hm 8 (by decide), hm 9 (by decide)]
theorem ldF_rest (L : Int) (c : Co) (f g : Nat → Int) : ∀ n, { ldF L c n with nx := f, mt := g } = { c with nx := f, mt := g }
  | 0 => rfl
  | n + 1 => ldF_rest L c f g n
theorem ldF_in (L : Int) (c : Co) : ∀ n i, i < n → (ldF L c n).nx i = L ∧ (ldF L c n).mt i = 0
  | 0, _, h => by omega
  | n + 1, i, h => by
    show upd (ldF L c n).nx n L i = L ∧ upd (ldF L c n).mt n 0 i = 0
    unfold upd
    by_cases e : i = n
    · rw [if_pos e, if_pos e]; exact ⟨rfl, rfl⟩
    · rw [if_neg e, if_neg e]; exact ldF_in L c n i (by omega)
theorem ldF_all (L : Int) (c : Co) (p : Option Addr) (k : Nat) : coL (ldF L c 10) p k = coL { c with nx := fun _ => L, mt := fun _ => 0 } p k :=
  coL_ext p k (ldF_rest L c _ _ 10) (fun i hi => (ldF_in L c 10 i hi).1) (fun i hi => (ldF_in L c 10 i hi).2)
theorem ldF_l (L : Int) (c : Co) : ∀ n, (ldF L c n).l = c.l
  | 0 => rfl
  | n + 1 => ldF_l L c n
theorem AcW.alike {T : TypeId} {B R : Nat} {w : World} {x y : CoX} {v : Value} {l : List MsX} (h : AcW T B w R x v l) (hv : y.v = x.v) (hl : y.c.l = x.c.l) (hp : y.p = x.p) (hk : y.k = x.k) : AcW T B w R y v l :=
  ⟨h.le, by rw [hv]; exact h.blk, h.ne, by have := h.en; unfold CoOwn at this ⊢; rw [hl, hp, hk]; exact this, h.out, fun z hz b hb => by have := h.sep z hz b hb; unfold CoX.bk at this ⊢; rw [hl, hp, hk]; exact this⟩

/-- The first cells of a block. -/
structure R25 (R : Nat) (cs : Array Value) (w' : World) : Prop where
  r : ∀ j, j < 25 → w'.cell? ⟨R, j, none⟩ = cs[j]?
set_option maxRecDepth 100000 in
set_option maxHeartbeats 16000000 in
theorem wins_act (B R N : Nat) (c : Co) (p : Option Addr) (k : Nat) (v : Value) (l : List MsX) (w : World) (h : AcW 69 B w R ⟨c, p, k⟩ v l) (hB : 0 < B) (hT : Tab w) (hF : CoFit N c) (hN : N < 600000) (hl : l.length ≤ 80000) :
    Calls Tryz.prog 43 #[.pointer (some ⟨R, 0, none⟩)] w fun e w' => e = .returned (.tuple #[]) ∧ ∃ v' q d l', l'.map MsX.m = l.map MsX.m ++ allM (winC c) ∧ AcW 69 B w' R ⟨winC c, q, d⟩ v' l' ∧ AcR w w' R v v' := by
  obtain ⟨X, hX⟩ : ∃ X, c.l.last = X := ⟨_, rfl⟩
  have hXb : 0 ≤ X ∧ X ≤ 1152921504607846976 := by have := hF.lo.f.b0; have := hF.lo.f.b1; have := hF.lo.f.n; rw [← hX]; unfold Lg.last; omega
  obtain ⟨cb, hcb⟩ : ∃ cb : Co, { c with role := 2, ld := c.id, wt := 0, hd := 0 } = cb := ⟨_, rfl⟩
  have hcl : coL (leadC c) p k = coL (ldF (X + 1) cb 10) p k := by rw [ldF_all, ← hcb, ← hX]; rfl
  have hcbl : cb.l = c.l := by rw [← hcb]
  have HCL := Lib.hid hcl; have HCB := Lib.hid hcb; have HCBL := Lib.hid hcbl
  have HF : Hid (CoFit N c) := hF; have HA0 := Lib.hid h; have HNN := Lib.hid hN; have HLL := Lib.hid hl; have HX := Lib.hid hX
  have HB0 := Lib.hid hB; have HT := Lib.hid hT
  have HLA := Lib.hid (show Calls Tryz.prog 96 #[.pointer (some ⟨R, 0, none⟩)] w fun e w' => e = .returned (.tuple #[.int .i64 X, .int .i64 (lastTerm c.l)]) ∧ Below w.heap.size w w' from by have := last_act R c p k v w h.blk hF.lo.f (EnSl.of_own h.en); rw [hX] at this; exact this)
  clear h hB hT hF hN hl hX hcl hcb hcbl
  go_enter Tryz.func43, Tryz.ntmps43
  go_wp2_with fail
  refine HLA.out.mono ?_; rintro r w0 ⟨rfl, b0⟩
  have hA := HA0.out.keep b0
  have HR := Lib.hid (AcR.below (R := R) (v := v) b0)
  clear HLA b0
  have hp1 := hA.put 1 (.int .i64 2) (by decide) ⟨{ c with role := 2 }, p, k⟩ rfl rfl rfl rfl
  have hp2 := hp1.1.put 4 (.int .i64 c.id) (by decide) ⟨{ c with role := 2, ld := c.id }, p, k⟩ rfl rfl rfl rfl
  have hp3 := hp2.1.put 5 (.int .i64 0) (by decide) ⟨{ c with role := 2, ld := c.id, wt := 0 }, p, k⟩ rfl rfl rfl rfl
  have hp4 := hp3.1.put 24 (.int .u16 0) (by decide) ⟨{ c with role := 2, ld := c.id, wt := 0, hd := 0 }, p, k⟩ rfl rfl rfl rfl
  rw [HCB.out] at hp4
  have k0 : w0.cell? ⟨R, 0, none⟩ = some (.int .i64 c.id) := block_cells hA.blk 0
  have k1 : w0.cell? ⟨R, 1, none⟩ = some (.int .i64 c.role) := block_cells hA.blk 1
  have f1 : w0.frozen? ⟨R, 1, none⟩ = false := block_free hA.blk 1
  have k4 : (w0.setCell ⟨R, 1, none⟩ (.int .i64 2)).cell? ⟨R, 4, none⟩ = some (.int .i64 c.ld) := block_cells hp1.1.blk 4
  have f4 : (w0.setCell ⟨R, 1, none⟩ (.int .i64 2)).frozen? ⟨R, 4, none⟩ = false := block_free hp1.1.blk 4
  have k5 : ((w0.setCell ⟨R, 1, none⟩ (.int .i64 2)).setCell ⟨R, 4, none⟩ (.int .i64 c.id)).cell? ⟨R, 5, none⟩ = some (.int .i64 c.wt) := block_cells hp2.1.blk 5
  have f5 : ((w0.setCell ⟨R, 1, none⟩ (.int .i64 2)).setCell ⟨R, 4, none⟩ (.int .i64 c.id)).frozen? ⟨R, 5, none⟩ = false := block_free hp2.1.blk 5
  have k24 : (((w0.setCell ⟨R, 1, none⟩ (.int .i64 2)).setCell ⟨R, 4, none⟩ (.int .i64 c.id)).setCell ⟨R, 5, none⟩ (.int .i64 0)).cell? ⟨R, 24, none⟩ = some (.int .u16 c.hd) := block_cells hp3.1.blk 24
  have f24 : (((w0.setCell ⟨R, 1, none⟩ (.int .i64 2)).setCell ⟨R, 4, none⟩ (.int .i64 c.id)).setCell ⟨R, 5, none⟩ (.int .i64 0)).frozen? ⟨R, 24, none⟩ = false := block_free hp3.1.blk 24
  have HA1 := Lib.hid hp4.1; have HR1 := Lib.hid ((((HR.out.trans hp1.2).trans hp2.2).trans hp3.2).trans hp4.2)
  clear hA hp1 hp2 hp3 hp4 HR
  go_upto_region 2 with fail
  obtain ⟨W1, hW1⟩ : ∃ z : World, (((w0.setCell ⟨R, 1, none⟩ (.int .i64 2)).setCell ⟨R, 4, none⟩ (.int .i64 c.id)).setCell ⟨R, 5, none⟩ (.int .i64 0)).setCell ⟨R, 24, none⟩ (.int .u16 0) = z := ⟨_, rfl⟩
  rw [hW1] at HA1 HR1 ⊢
  clear hW1 k0 k1 f1 k4 f4 k5 f5 k24 f24
  go_wp2_with fail
  go_loopw [31] (fun i wr => ∃ n : Nat, n ≤ 10 ∧ i = .int .i64 (n : Int) ∧ Hid (AcW 69 B wr R ⟨ldF (X + 1) cb n, p, k⟩ v l ∧ AcR w wr R v v)) (fun i _ => 10 - (intOf i).toNat)
  case atStart => exact ⟨0, by omega, rfl, HA1.out, HR1.out⟩
  case round =>
    obtain ⟨n, hn, rfl, HS⟩ := hrel
    obtain ⟨wk, rfl⟩ : ∃ wk : World, wk = wr := ⟨_, rfl⟩
    by_cases hlt : n < 10
    · have hd : decide ((n : Int) < 10) = true := by simp; omega
      have hn0 : 0 ≤ (n : Int) := by omega
      have hn1 : (n : Int) < 10 := by omega
      obtain ⟨cn, hcn⟩ : ∃ cn, ldF (X + 1) cb n = cn := ⟨_, rfl⟩
      have hnx : ldF (X + 1) cb (n + 1) = { cn with nx := upd cn.nx n (X + 1), mt := upd cn.mt n 0 } := by rw [ldF, hcn]
      have hcnl : cn.l = c.l := by rw [← hcn, ldF_l]; exact HCBL.out
      have hwr : IntKind.i64.wrap (X + 1) = X + 1 := by rw [IntKind.wrap_i64]; omega
      have HNX := Lib.hid hnx; have HCNL := Lib.hid hcnl
      rw [hcn] at HS
      clear hnx hcn hcnl
      go_upto_region 5 with fail
      have hA := HS.out.1.keep (Below.refl _ _).drew
      have hr := HS.out.2.drew
      obtain ⟨wd, ewd⟩ : ∃ x, wk.drew = x := ⟨_, rfl⟩
      refine wp_region_held_drew (S := fun _ => True) (by kernel_rfl) trivial (fun hHeld => ?_)
      rewrite [ewd] at hA hr ⊢
      clear ewd HS
      have hp1 := hA.put (25 + n) (.int .i64 (X + 1)) (by omega) ⟨{ cn with nx := upd cn.nx n (X + 1) }, p, k⟩ (nx_set cn p k hlt (X + 1)) rfl rfl rfl
      have hp2 := hp1.1.put (35 + n) (.int .i64 0) (by omega) ⟨{ cn with nx := upd cn.nx n (X + 1), mt := upd cn.mt n 0 }, p, k⟩ (mt_set { cn with nx := upd cn.nx n (X + 1) } p k hlt 0) rfl rfl rfl
      have kN := ac_nx (c := cn) (p := p) (k := k) hA.blk hlt
      have fN := block_free hA.blk (25 + n)
      have kM := ac_mt (c := { cn with nx := upd cn.nx n (X + 1) }) (p := p) (k := k) hp1.1.blk hlt
      have fM := block_free hp1.1.blk (35 + n)
      have HS2 := Lib.hid (And.intro hp2.1 ((hr.trans hp1.2).trans hp2.2))
      clear hA hr hp1 hp2
      refine tkL 0 rfl hHeld ?_
      try simp only [zA, zC, Act.put, zD, zE, zF]
      refine tkL 1 rfl hHeld ?_
      try simp only [zA, zB, zC, Act.put, zD, zE, zF]
      refine tkL 2 rfl hHeld ?_
      try simp only [zA, zB, zC, Act.put, zD, zE, zF]
      refine tkL 3 rfl hHeld ?_
      try simp only [zA, zB, zC, Act.put, zD, zE, zF]
      refine tkL 4 rfl hHeld ?_
      try simp only [zA, zB, zC, Act.put, zD, zE, zF]
      refine tkL 5 rfl hHeld ?_
      try simp only [zA, zB, zC, Act.put, zD, zE, zF]
      refine tkL 6 rfl hHeld ?_
      try simp only [zA, zB, zC, Act.put, zD, zE, zF]
      refine tkL 7 rfl hHeld ?_
      try simp only [zA, zB, zC, Act.put, zD, zE, zF]
      refine tkL 8 rfl hHeld ?_
      try simp only [zA, zB, zC, Act.put, zD, zE, zF]
      refine tkL 9 rfl hHeld ?_
      try simp only [zA, zB, zC, Act.put, zD, zE, zF]
      refine tkL 11 rfl hHeld ?_
      try simp only [zA, zB, zC, Act.put, zD, zE, zF]
      refine tkL 12 rfl hHeld ?_
      try simp only [zA, zB, zC, Act.put, zD, zE, zF]
      refine tkL 13 rfl hHeld ?_
      try simp only [zA, zB, zC, Act.put, zD, zE, zF]
      refine wpAnyH_ready (rs := [10]) (by kernel_rfl) (by simp) ?_; refine AllReadyH.cons rfl (fun K hK => ?_) AllReadyH.nil
      try simp only [zA, zB, zC]
      go_simp
      refine hK.out _ _ trivial (fun _ => ?_)
      clear hK K kN fN
      obtain ⟨we, hwe⟩ : ∃ z : World, wd.setCell ⟨R, 25 + n, none⟩ (.int .i64 (X + 1)) = z := ⟨_, rfl⟩
      rewrite [hwe] at kM fM HS2 ⊢
      clear hwe
      try simp only [zA, zB, zC, Act.put, zD, zE, zF]
      refine tkL 14 rfl hHeld ?_
      try simp only [zA, zB, zC, Act.put, zD, zE, zF]
      refine wpAnyH_ready (rs := [15]) (by kernel_rfl) (by simp) ?_; refine AllReadyH.cons rfl (fun K hK => ?_) AllReadyH.nil
      try simp only [zA, zB, zC]
      go_simp
      refine hK.out _ _ trivial (fun _ => ?_)
      clear hK K hHeld kM fM
      try simp only [zA, zB, zC, Act.put, zD, zE, zF]
      refine wpAnyH_done (by kernel_rfl) ?_ _
      go_wp2_with fail
      go_roundw
      case rel => exact ⟨n + 1, by omega, by go_num, by rw [HNX.out]; exact HS2⟩
      case measure => simp [intOf]; omega
    · obtain rfl : n = 10 := by omega
      have hd : decide ((10 : Int) < 10) = false := by simp
      obtain ⟨cl, hcl⟩ : ∃ cl, leadC c = cl := ⟨_, rfl⟩
      have hAL : AcW 69 B wk R ⟨cl, p, k⟩ v l := HS.out.1.alike (by rw [← hcl]; exact HCL.out) (by rw [← hcl, ldF_l]; exact HCBL.out.symm) rfl rfl
      have HFL : Hid (CoFit N cl) := by show CoFit N cl; rw [← hcl]; exact HF.out.lead
      have HR2 := Lib.hid HS.out.2
      have HID := Lib.hid (show cl.id = ((cl.id.toNat : Nat) : Int) ∧ cl.id.toNat < 10 from by have := HFL.out.id0; have := HFL.out.id1; omega)
      have HPU := Lib.hid (show Calls Tryz.prog 77 #[.pointer (some ⟨R, 0, none⟩), .agg #[.int .i64 0, .int .i64 0, .string ⟨#[]⟩, .int .u16 0, .int .u16 0, .int .u16 0, .int .i64 0, .int .i64 0, .int .u16 0, .int .u16 0, .int .u16 0, .int .i64 0, .int .i64 0, .bool false]] wk fun r w' => r = .returned (.int .i64 (cl.l.last + 1)) ∧ ∃ q d, AcW 69 B w' R ⟨pushC cl ent0, q, d⟩ v l ∧ AcR wk w' R v v from push_act B R cl.id.toNat cl p k v l ent0 wk hAL HFL.out.lo.f HID.out.1 HID.out.2 (by have := HFL.out.n; have := HNN.out; omega))
      have HWC : Hid (winC c = countsC (pushC cl ent0)) := by show _ = _; unfold winC; rw [hcl]
      clear HS hcl hAL
      go_wp2_with fail
      refine HPU.out.mono ?_; rintro r w2 ⟨rfl, q2, d2, hA2, hr2⟩
      have HR3 := Lib.hid (HR2.out.trans hr2)
      have HFP : Hid (CoFit (N + 1) (pushC cl ent0)) := HFL.out.push (by have := HNN.out; omega) ent0_ok
      have HCO := Lib.hid (counts_act B R (N + 1) (pushC cl ent0) q2 d2 v l w2 hA2 HB0.out (HA0.out.tab HB0.out HT.out HR3.out) HFP.out (by have := HNN.out; omega))
      clear hA2 hr2 HPU HR2
      go_wp2_with fail
      refine HCO.out.mono ?_; rintro r w3 ⟨rfl, q3, d3, hA3, hr3⟩
      rewrite [← HWC.out] at hA3
      have HR4 := Lib.hid (HR3.out.trans hr3)
      have HFW := Lib.hid (show CoFit (N + 2) (winC c) from HF.out.win (by have := HNN.out; omega))
      have HAL := Lib.hid (all_act B R (winC c) q3 d3 v l w3 hA3 HFW.out.lo.f (HA0.out.tab HB0.out HT.out HR4.out) HFW.out.nx (by have := HLL.out; omega))
      clear hA3 hr3 HCO HR3
      go_wp2_with fail
      refine HAL.out.mono ?_; rintro r w4 ⟨rfl, v4, l4, hl4, hA4, hr4⟩
      have HO := Lib.hid (And.intro hl4 (And.intro hA4 (HR4.out.trans hr4)))
      clear hl4 hA4 hr4 HAL
      go_wp2_with fail
      first | go_end0 | refine bodyPost_ret (results_none rfl _ _ _) rfl ?_
      exact ⟨rfl, v4, q3, d3, l4, HO.out.1, HO.out.2.1, HO.out.2.2⟩
set_option maxRecDepth 100000 in
set_option maxHeartbeats 16000000 in
theorem rwins_act (B R N : Nat) (c : Co) (p : Option Addr) (k : Nat) (v : Value) (l : List MsX) (w : World) (h : AcW 76 B w R ⟨c, p, k⟩ v l) (hF : CoFit N c) (hN : N < 600000) (hl : l.length ≤ 80000) :
    Calls Tryz.prog 55 #[.pointer (some ⟨R, 0, none⟩)] w fun e w' => e = .returned (.tuple #[]) ∧ ∃ v' q d l', l'.map MsX.m = l.map MsX.m ++ allM (winC c) ∧ AcW 76 B w' R ⟨winC c, q, d⟩ v' l' ∧ AcR w w' R v v' := by
  obtain ⟨X, hX⟩ : ∃ X, c.l.last = X := ⟨_, rfl⟩
  have hXb : 0 ≤ X ∧ X ≤ 1152921504607846976 := by have := hF.lo.f.b0; have := hF.lo.f.b1; have := hF.lo.f.n; rw [← hX]; unfold Lg.last; omega
  obtain ⟨cb, hcb⟩ : ∃ cb : Co, { c with role := 2, ld := c.id, wt := 0, hd := 0 } = cb := ⟨_, rfl⟩
  have hcl : coL (leadC c) p k = coL (ldF (X + 1) cb 10) p k := by rw [ldF_all, ← hcb, ← hX]; rfl
  have hcbl : cb.l = c.l := by rw [← hcb]
  have HCL := Lib.hid hcl; have HCB := Lib.hid hcb; have HCBL := Lib.hid hcbl
  have HF : Hid (CoFit N c) := hF; have HA0 := Lib.hid h; have HNN := Lib.hid hN; have HLL := Lib.hid hl; have HX := Lib.hid hX
  clear h hF hN hl hX hcl hcb hcbl
  go_enter Tryz.func55, Tryz.ntmps55
  have hA := HA0.out
  have HR : Hid (AcR w w R v v) := AcR.refl _ _ _
  have hp1 := hA.put 1 (.int .i64 2) (by decide) ⟨{ c with role := 2 }, p, k⟩ rfl rfl rfl rfl
  have hp2 := hp1.1.put 4 (.int .i64 c.id) (by decide) ⟨{ c with role := 2, ld := c.id }, p, k⟩ rfl rfl rfl rfl
  have hp3 := hp2.1.put 5 (.int .i64 0) (by decide) ⟨{ c with role := 2, ld := c.id, wt := 0 }, p, k⟩ rfl rfl rfl rfl
  have hp4 := hp3.1.put 24 (.int .u16 0) (by decide) ⟨{ c with role := 2, ld := c.id, wt := 0, hd := 0 }, p, k⟩ rfl rfl rfl rfl
  rw [HCB.out] at hp4
  have k0 : w.cell? ⟨R, 0, none⟩ = some (.int .i64 c.id) := block_cells hA.blk 0
  have k1 : w.cell? ⟨R, 1, none⟩ = some (.int .i64 c.role) := block_cells hA.blk 1
  have f1 : w.frozen? ⟨R, 1, none⟩ = false := block_free hA.blk 1
  have k4 : (w.setCell ⟨R, 1, none⟩ (.int .i64 2)).cell? ⟨R, 4, none⟩ = some (.int .i64 c.ld) := block_cells hp1.1.blk 4
  have f4 : (w.setCell ⟨R, 1, none⟩ (.int .i64 2)).frozen? ⟨R, 4, none⟩ = false := block_free hp1.1.blk 4
  have k5 : ((w.setCell ⟨R, 1, none⟩ (.int .i64 2)).setCell ⟨R, 4, none⟩ (.int .i64 c.id)).cell? ⟨R, 5, none⟩ = some (.int .i64 c.wt) := block_cells hp2.1.blk 5
  have f5 : ((w.setCell ⟨R, 1, none⟩ (.int .i64 2)).setCell ⟨R, 4, none⟩ (.int .i64 c.id)).frozen? ⟨R, 5, none⟩ = false := block_free hp2.1.blk 5
  have k24 : (((w.setCell ⟨R, 1, none⟩ (.int .i64 2)).setCell ⟨R, 4, none⟩ (.int .i64 c.id)).setCell ⟨R, 5, none⟩ (.int .i64 0)).cell? ⟨R, 24, none⟩ = some (.int .u16 c.hd) := block_cells hp3.1.blk 24
  have f24 : (((w.setCell ⟨R, 1, none⟩ (.int .i64 2)).setCell ⟨R, 4, none⟩ (.int .i64 c.id)).setCell ⟨R, 5, none⟩ (.int .i64 0)).frozen? ⟨R, 24, none⟩ = false := block_free hp3.1.blk 24
  have HA1 := Lib.hid hp4.1; have HR1 := Lib.hid ((((HR.out.trans hp1.2).trans hp2.2).trans hp3.2).trans hp4.2)
  clear hA hp1 hp2 hp3 hp4 HR
  go_upto_region 1 with fail
  obtain ⟨W1, hW1⟩ : ∃ z : World, (((w.setCell ⟨R, 1, none⟩ (.int .i64 2)).setCell ⟨R, 4, none⟩ (.int .i64 c.id)).setCell ⟨R, 5, none⟩ (.int .i64 0)).setCell ⟨R, 24, none⟩ (.int .u16 0) = z := ⟨_, rfl⟩
  rw [hW1] at HA1 HR1 ⊢
  clear hW1 k0 k1 f1 k4 f4 k5 f5 k24 f24
  go_wp2_with fail
  go_loopw [2] (fun i wr => ∃ n : Nat, n ≤ 10 ∧ i = .int .i64 (n : Int) ∧ Hid (AcW 76 B wr R ⟨ldF (X + 1) cb n, p, k⟩ v l ∧ AcR w wr R v v)) (fun i _ => 10 - (intOf i).toNat)
  case atStart => exact ⟨0, by omega, rfl, HA1.out, HR1.out⟩
  case round =>
    obtain ⟨n, hn, rfl, HS⟩ := hrel
    obtain ⟨wk, rfl⟩ : ∃ wk : World, wk = wr := ⟨_, rfl⟩
    by_cases hlt : n < 10
    · have hd : decide ((n : Int) < 10) = true := by simp; omega
      have hn0 : 0 ≤ (n : Int) := by omega
      have hn1 : (n : Int) < 10 := by omega
      obtain ⟨cn, hcn⟩ : ∃ cn, ldF (X + 1) cb n = cn := ⟨_, rfl⟩
      have hnx : ldF (X + 1) cb (n + 1) = { cn with nx := upd cn.nx n (X + 1), mt := upd cn.mt n 0 } := by rw [ldF, hcn]
      have hcnl : cn.l = c.l := by rw [← hcn, ldF_l]; exact HCBL.out
      have hwr : IntKind.i64.wrap (X + 1) = X + 1 := by rw [IntKind.wrap_i64]; omega
      have HNX := Lib.hid hnx; have HCNL := Lib.hid hcnl
      rw [hcn] at HS
      clear hnx hcn hcnl
      go_upto_region 4 with fail
      have hA := HS.out.1.keep (Below.refl _ _).drew
      have hr := HS.out.2.drew
      obtain ⟨wd, ewd⟩ : ∃ x, wk.drew = x := ⟨_, rfl⟩
      have hRd : wk.drew.heap[R]? = some (.cells #[.int .i64 cn.id, .int .i64 cn.role, .int .i64 cn.tm, .int .i64 cn.vt, .int .i64 cn.ld, .int .i64 cn.wt, .int .i64 cn.cm, .int .i64 cn.sf, .int .i64 cn.l.b, .int .i64 cn.l.bt, .int .u16 cn.l.j.ov, .int .u16 cn.l.j.ox, .int .u16 cn.l.j.ol, .int .i64 cn.l.j.oe, .int .i64 cn.l.j.ok, .int .u16 cn.l.j.nv, .int .u16 cn.l.j.nx, .int .u16 cn.l.j.nl, .int .i64 cn.l.j.ne, .int .i64 cn.l.j.nk, .bool cn.l.j.two, .slice p cn.l.es.length k, .string cn.sn, .int .u16 cn.vs, .int .u16 cn.hd, .int .i64 (cn.nx 0), .int .i64 (cn.nx 1), .int .i64 (cn.nx 2), .int .i64 (cn.nx 3), .int .i64 (cn.nx 4), .int .i64 (cn.nx 5), .int .i64 (cn.nx 6), .int .i64 (cn.nx 7), .int .i64 (cn.nx 8), .int .i64 (cn.nx 9), .int .i64 (cn.mt 0), .int .i64 (cn.mt 1), .int .i64 (cn.mt 2), .int .i64 (cn.mt 3), .int .i64 (cn.mt 4), .int .i64 (cn.mt 5), .int .i64 (cn.mt 6), .int .i64 (cn.mt 7), .int .i64 (cn.mt 8), .int .i64 (cn.mt 9), v] 76 (0, 0)) := hA.blk
      have h0 : R25 R #[.int .i64 cn.id, .int .i64 cn.role, .int .i64 cn.tm, .int .i64 cn.vt, .int .i64 cn.ld, .int .i64 cn.wt, .int .i64 cn.cm, .int .i64 cn.sf, .int .i64 cn.l.b, .int .i64 cn.l.bt, .int .u16 cn.l.j.ov, .int .u16 cn.l.j.ox, .int .u16 cn.l.j.ol, .int .i64 cn.l.j.oe, .int .i64 cn.l.j.ok, .int .u16 cn.l.j.nv, .int .u16 cn.l.j.nx, .int .u16 cn.l.j.nl, .int .i64 cn.l.j.ne, .int .i64 cn.l.j.nk, .bool cn.l.j.two, .slice p cn.l.es.length k, .string cn.sn, .int .u16 cn.vs, .int .u16 cn.hd, .int .i64 (cn.nx 0), .int .i64 (cn.nx 1), .int .i64 (cn.nx 2), .int .i64 (cn.nx 3), .int .i64 (cn.nx 4), .int .i64 (cn.nx 5), .int .i64 (cn.nx 6), .int .i64 (cn.nx 7), .int .i64 (cn.nx 8), .int .i64 (cn.nx 9), .int .i64 (cn.mt 0), .int .i64 (cn.mt 1), .int .i64 (cn.mt 2), .int .i64 (cn.mt 3), .int .i64 (cn.mt 4), .int .i64 (cn.mt 5), .int .i64 (cn.mt 6), .int .i64 (cn.mt 7), .int .i64 (cn.mt 8), .int .i64 (cn.mt 9), v] wk.drew := ⟨fun j _ => block_cells hRd j⟩
      refine wp_region_held_drew (S := R25 R #[.int .i64 cn.id, .int .i64 cn.role, .int .i64 cn.tm, .int .i64 cn.vt, .int .i64 cn.ld, .int .i64 cn.wt, .int .i64 cn.cm, .int .i64 cn.sf, .int .i64 cn.l.b, .int .i64 cn.l.bt, .int .u16 cn.l.j.ov, .int .u16 cn.l.j.ox, .int .u16 cn.l.j.ol, .int .i64 cn.l.j.oe, .int .i64 cn.l.j.ok, .int .u16 cn.l.j.nv, .int .u16 cn.l.j.nx, .int .u16 cn.l.j.nl, .int .i64 cn.l.j.ne, .int .i64 cn.l.j.nk, .bool cn.l.j.two, .slice p cn.l.es.length k, .string cn.sn, .int .u16 cn.vs, .int .u16 cn.hd, .int .i64 (cn.nx 0), .int .i64 (cn.nx 1), .int .i64 (cn.nx 2), .int .i64 (cn.nx 3), .int .i64 (cn.nx 4), .int .i64 (cn.nx 5), .int .i64 (cn.nx 6), .int .i64 (cn.nx 7), .int .i64 (cn.nx 8), .int .i64 (cn.nx 9), .int .i64 (cn.mt 0), .int .i64 (cn.mt 1), .int .i64 (cn.mt 2), .int .i64 (cn.mt 3), .int .i64 (cn.mt 4), .int .i64 (cn.mt 5), .int .i64 (cn.mt 6), .int .i64 (cn.mt 7), .int .i64 (cn.mt 8), .int .i64 (cn.mt 9), v]) (by kernel_rfl) h0 (fun hHeld => ?_)
      rewrite [ewd] at hA hr h0 hHeld ⊢
      clear ewd HS hRd
      have HA := Lib.hid hA; have HR := Lib.hid hr
      have k8 : ∀ w', R25 R #[.int .i64 cn.id, .int .i64 cn.role, .int .i64 cn.tm, .int .i64 cn.vt, .int .i64 cn.ld, .int .i64 cn.wt, .int .i64 cn.cm, .int .i64 cn.sf, .int .i64 cn.l.b, .int .i64 cn.l.bt, .int .u16 cn.l.j.ov, .int .u16 cn.l.j.ox, .int .u16 cn.l.j.ol, .int .i64 cn.l.j.oe, .int .i64 cn.l.j.ok, .int .u16 cn.l.j.nv, .int .u16 cn.l.j.nx, .int .u16 cn.l.j.nl, .int .i64 cn.l.j.ne, .int .i64 cn.l.j.nk, .bool cn.l.j.two, .slice p cn.l.es.length k, .string cn.sn, .int .u16 cn.vs, .int .u16 cn.hd, .int .i64 (cn.nx 0), .int .i64 (cn.nx 1), .int .i64 (cn.nx 2), .int .i64 (cn.nx 3), .int .i64 (cn.nx 4), .int .i64 (cn.nx 5), .int .i64 (cn.nx 6), .int .i64 (cn.nx 7), .int .i64 (cn.nx 8), .int .i64 (cn.nx 9), .int .i64 (cn.mt 0), .int .i64 (cn.mt 1), .int .i64 (cn.mt 2), .int .i64 (cn.mt 3), .int .i64 (cn.mt 4), .int .i64 (cn.mt 5), .int .i64 (cn.mt 6), .int .i64 (cn.mt 7), .int .i64 (cn.mt 8), .int .i64 (cn.mt 9), v] w' → ∀ j, j < 14 → w'.cell? ⟨R, 8 + j, none⟩ = #[.int .i64 cn.l.b, .int .i64 cn.l.bt, .int .u16 cn.l.j.ov, .int .u16 cn.l.j.ox, .int .u16 cn.l.j.ol, .int .i64 cn.l.j.oe, .int .i64 cn.l.j.ok, .int .u16 cn.l.j.nv, .int .u16 cn.l.j.nx, .int .u16 cn.l.j.nl, .int .i64 cn.l.j.ne, .int .i64 cn.l.j.nk, .bool cn.l.j.two, .slice p cn.l.es.length k][j]? := fun w' h j hj => by
        rw [h.r (8 + j) (by omega)]
        rcases (show j = 0 ∨ j = 1 ∨ j = 2 ∨ j = 3 ∨ j = 4 ∨ j = 5 ∨ j = 6 ∨ j = 7 ∨ j = 8 ∨ j = 9 ∨ j = 10 ∨ j = 11 ∨ j = 12 ∨ j = 13 by omega) with rfl | rfl | rfl | rfl | rfl | rfl | rfl | rfl | rfl | rfl | rfl | rfl | rfl | rfl <;> rfl
      have HCLa := Lib.hid (show Calls Tryz.prog 33 #[.agg #[.int .i64 cn.l.b, .int .i64 cn.l.bt, .int .u16 cn.l.j.ov, .int .u16 cn.l.j.ox, .int .u16 cn.l.j.ol, .int .i64 cn.l.j.oe, .int .i64 cn.l.j.ok, .int .u16 cn.l.j.nv, .int .u16 cn.l.j.nx, .int .u16 cn.l.j.nl, .int .i64 cn.l.j.ne, .int .i64 cn.l.j.nk, .bool cn.l.j.two, .slice p cn.l.es.length k]] wd fun r w2 => r = .returned (.int .i64 X) ∧ Below wd.heap.size wd w2 from by rw [HCNL.out]; have := rlast_any c.l p k wd HF.out.lo.f.b0 HF.out.lo.f.b1 HF.out.lo.f.n; rw [HX.out] at this; exact this)
      clear hA hr
      refine tkL 0 rfl hHeld ?_
      try simp only [zA, zC, Act.put, zD, zE, zF]
      refine tkL 1 rfl hHeld ?_
      try simp only [zA, zB, zC, Act.put, zD, zE, zF]
      refine tkL 2 rfl hHeld ?_
      try simp only [zA, zB, zC, Act.put, zD, zE, zF]
      refine tkL 3 rfl hHeld ?_
      try simp only [zA, zB, zC, Act.put, zD, zE, zF]
      refine tkL 4 rfl hHeld ?_
      try simp only [zA, zB, zC, Act.put, zD, zE, zF]
      refine tkL 5 rfl hHeld ?_
      try simp only [zA, zB, zC, Act.put, zD, zE, zF]
      refine tkL 6 rfl hHeld ?_
      try simp only [zA, zB, zC, Act.put, zD, zE, zF]
      refine tkL 7 rfl hHeld ?_
      try simp only [zA, zB, zC, Act.put, zD, zE, zF]
      refine tkH (i := 8) (v := .agg #[.int .i64 cn.l.b, .int .i64 cn.l.bt, .int .u16 cn.l.j.ov, .int .u16 cn.l.j.ox, .int .u16 cn.l.j.ol, .int .i64 cn.l.j.oe, .int .i64 cn.l.j.ok, .int .u16 cn.l.j.nv, .int .u16 cn.l.j.nx, .int .u16 cn.l.j.nl, .int .i64 cn.l.j.ne, .int .i64 cn.l.j.nk, .bool cn.l.j.two, .slice p cn.l.es.length k]) rfl (yieldsIf_load_mid (by rfl) _ _ rfl R 8 rfl [.int .i64 cn.l.b, .int .i64 cn.l.bt, .int .u16 cn.l.j.ov, .int .u16 cn.l.j.ox, .int .u16 cn.l.j.ol, .int .i64 cn.l.j.oe, .int .i64 cn.l.j.ok, .int .u16 cn.l.j.nv, .int .u16 cn.l.j.nx, .int .u16 cn.l.j.nl, .int .i64 cn.l.j.ne, .int .i64 cn.l.j.nk, .bool cn.l.j.two, .slice p cn.l.es.length k] _ (fun w' h => range_of (n := 14) rfl (fun j hj => by rw [k8 w' h j hj, List.getElem?_toArray])) Tryz.underlying30 rfl (by kernel_rfl)) hHeld ?_
      try simp only [zA, zB, zC, Act.put, zD, zE, zF]
      clear k8
      refine tkL 11 rfl hHeld ?_
      try simp only [zA, zB, zC, Act.put, zD, zE, zF]
      refine tkL 12 rfl hHeld ?_
      try simp only [zA, zB, zC, Act.put, zD, zE, zF]
      refine tkL 13 rfl hHeld ?_
      try simp only [zA, zB, zC, Act.put, zD, zE, zF]
      refine tkL 16 rfl hHeld ?_
      try simp only [zA, zB, zC, Act.put, zD, zE, zF]
      refine tkL 17 rfl hHeld ?_
      try simp only [zA, zB, zC, Act.put, zD, zE, zF]
      refine tkL 18 rfl hHeld ?_
      try simp only [zA, zB, zC, Act.put, zD, zE, zF]
      refine wpAnyH_ready (rs := [9]) (by kernel_rfl) (by simp) ?_; refine AllReadyH.cons rfl (fun K hK => ?_) AllReadyH.nil; (try simp only [zA, zB, zC]); go_simp
      refine HCLa.out.mono ?_; rintro r0 w5 ⟨rfl, b5⟩
      have hA := HA.out.keep b5
      have hRd : w5.heap[R]? = some (.cells #[.int .i64 cn.id, .int .i64 cn.role, .int .i64 cn.tm, .int .i64 cn.vt, .int .i64 cn.ld, .int .i64 cn.wt, .int .i64 cn.cm, .int .i64 cn.sf, .int .i64 cn.l.b, .int .i64 cn.l.bt, .int .u16 cn.l.j.ov, .int .u16 cn.l.j.ox, .int .u16 cn.l.j.ol, .int .i64 cn.l.j.oe, .int .i64 cn.l.j.ok, .int .u16 cn.l.j.nv, .int .u16 cn.l.j.nx, .int .u16 cn.l.j.nl, .int .i64 cn.l.j.ne, .int .i64 cn.l.j.nk, .bool cn.l.j.two, .slice p cn.l.es.length k, .string cn.sn, .int .u16 cn.vs, .int .u16 cn.hd, .int .i64 (cn.nx 0), .int .i64 (cn.nx 1), .int .i64 (cn.nx 2), .int .i64 (cn.nx 3), .int .i64 (cn.nx 4), .int .i64 (cn.nx 5), .int .i64 (cn.nx 6), .int .i64 (cn.nx 7), .int .i64 (cn.nx 8), .int .i64 (cn.nx 9), .int .i64 (cn.mt 0), .int .i64 (cn.mt 1), .int .i64 (cn.mt 2), .int .i64 (cn.mt 3), .int .i64 (cn.mt 4), .int .i64 (cn.mt 5), .int .i64 (cn.mt 6), .int .i64 (cn.mt 7), .int .i64 (cn.mt 8), .int .i64 (cn.mt 9), v] 76 (0, 0)) := hA.blk
      have h5 : R25 R #[.int .i64 cn.id, .int .i64 cn.role, .int .i64 cn.tm, .int .i64 cn.vt, .int .i64 cn.ld, .int .i64 cn.wt, .int .i64 cn.cm, .int .i64 cn.sf, .int .i64 cn.l.b, .int .i64 cn.l.bt, .int .u16 cn.l.j.ov, .int .u16 cn.l.j.ox, .int .u16 cn.l.j.ol, .int .i64 cn.l.j.oe, .int .i64 cn.l.j.ok, .int .u16 cn.l.j.nv, .int .u16 cn.l.j.nx, .int .u16 cn.l.j.nl, .int .i64 cn.l.j.ne, .int .i64 cn.l.j.nk, .bool cn.l.j.two, .slice p cn.l.es.length k, .string cn.sn, .int .u16 cn.vs, .int .u16 cn.hd, .int .i64 (cn.nx 0), .int .i64 (cn.nx 1), .int .i64 (cn.nx 2), .int .i64 (cn.nx 3), .int .i64 (cn.nx 4), .int .i64 (cn.nx 5), .int .i64 (cn.nx 6), .int .i64 (cn.nx 7), .int .i64 (cn.nx 8), .int .i64 (cn.nx 9), .int .i64 (cn.mt 0), .int .i64 (cn.mt 1), .int .i64 (cn.mt 2), .int .i64 (cn.mt 3), .int .i64 (cn.mt 4), .int .i64 (cn.mt 5), .int .i64 (cn.mt 6), .int .i64 (cn.mt 7), .int .i64 (cn.mt 8), .int .i64 (cn.mt 9), v] w5 := ⟨fun j _ => block_cells hRd j⟩
      have hp1 := hA.put (25 + n) (.int .i64 (X + 1)) (by omega) ⟨{ cn with nx := upd cn.nx n (X + 1) }, p, k⟩ (nx_set cn p k hlt (X + 1)) rfl rfl rfl
      have hp2 := hp1.1.put (35 + n) (.int .i64 0) (by omega) ⟨{ cn with nx := upd cn.nx n (X + 1), mt := upd cn.mt n 0 }, p, k⟩ (mt_set { cn with nx := upd cn.nx n (X + 1) } p k hlt 0) rfl rfl rfl
      have h6 : R25 R #[.int .i64 cn.id, .int .i64 cn.role, .int .i64 cn.tm, .int .i64 cn.vt, .int .i64 cn.ld, .int .i64 cn.wt, .int .i64 cn.cm, .int .i64 cn.sf, .int .i64 cn.l.b, .int .i64 cn.l.bt, .int .u16 cn.l.j.ov, .int .u16 cn.l.j.ox, .int .u16 cn.l.j.ol, .int .i64 cn.l.j.oe, .int .i64 cn.l.j.ok, .int .u16 cn.l.j.nv, .int .u16 cn.l.j.nx, .int .u16 cn.l.j.nl, .int .i64 cn.l.j.ne, .int .i64 cn.l.j.nk, .bool cn.l.j.two, .slice p cn.l.es.length k, .string cn.sn, .int .u16 cn.vs, .int .u16 cn.hd, .int .i64 (cn.nx 0), .int .i64 (cn.nx 1), .int .i64 (cn.nx 2), .int .i64 (cn.nx 3), .int .i64 (cn.nx 4), .int .i64 (cn.nx 5), .int .i64 (cn.nx 6), .int .i64 (cn.nx 7), .int .i64 (cn.nx 8), .int .i64 (cn.nx 9), .int .i64 (cn.mt 0), .int .i64 (cn.mt 1), .int .i64 (cn.mt 2), .int .i64 (cn.mt 3), .int .i64 (cn.mt 4), .int .i64 (cn.mt 5), .int .i64 (cn.mt 6), .int .i64 (cn.mt 7), .int .i64 (cn.mt 8), .int .i64 (cn.mt 9), v] (w5.setCell ⟨R, 25 + n, none⟩ (.int .i64 (X + 1))) := ⟨fun j hj => by rw [block_cells (cells_setW hRd (25 + n) _), Array.getElem?_setIfInBounds_ne (by omega)]⟩
      have h7 : R25 R #[.int .i64 cn.id, .int .i64 cn.role, .int .i64 cn.tm, .int .i64 cn.vt, .int .i64 cn.ld, .int .i64 cn.wt, .int .i64 cn.cm, .int .i64 cn.sf, .int .i64 cn.l.b, .int .i64 cn.l.bt, .int .u16 cn.l.j.ov, .int .u16 cn.l.j.ox, .int .u16 cn.l.j.ol, .int .i64 cn.l.j.oe, .int .i64 cn.l.j.ok, .int .u16 cn.l.j.nv, .int .u16 cn.l.j.nx, .int .u16 cn.l.j.nl, .int .i64 cn.l.j.ne, .int .i64 cn.l.j.nk, .bool cn.l.j.two, .slice p cn.l.es.length k, .string cn.sn, .int .u16 cn.vs, .int .u16 cn.hd, .int .i64 (cn.nx 0), .int .i64 (cn.nx 1), .int .i64 (cn.nx 2), .int .i64 (cn.nx 3), .int .i64 (cn.nx 4), .int .i64 (cn.nx 5), .int .i64 (cn.nx 6), .int .i64 (cn.nx 7), .int .i64 (cn.nx 8), .int .i64 (cn.nx 9), .int .i64 (cn.mt 0), .int .i64 (cn.mt 1), .int .i64 (cn.mt 2), .int .i64 (cn.mt 3), .int .i64 (cn.mt 4), .int .i64 (cn.mt 5), .int .i64 (cn.mt 6), .int .i64 (cn.mt 7), .int .i64 (cn.mt 8), .int .i64 (cn.mt 9), v] ((w5.setCell ⟨R, 25 + n, none⟩ (.int .i64 (X + 1))).setCell ⟨R, 35 + n, none⟩ (.int .i64 0)) := ⟨fun j hj => by rw [block_cells (cells_setW (cells_setW hRd (25 + n) _) (35 + n) _), Array.getElem?_setIfInBounds_ne (by omega), Array.getElem?_setIfInBounds_ne (by omega)]⟩
      have kN := ac_nx (c := cn) (p := p) (k := k) hA.blk hlt
      have fN := block_free hA.blk (25 + n)
      have kM := ac_mt (c := { cn with nx := upd cn.nx n (X + 1) }) (p := p) (k := k) hp1.1.blk hlt
      have fM := block_free hp1.1.blk (35 + n)
      have HS2 := Lib.hid (And.intro hp2.1 (((HR.out.trans (AcR.below b5)).trans hp1.2).trans hp2.2))
      clear hA hp1 hp2 hRd HA HR HCLa b5 h0
      refine hK.out _ _ h5 (fun _ => ?_)
      clear hK K hHeld
      try simp only [zA, zB, zC, Act.put, zD, zE, zF]
      have hHeld := h5
      refine tkL 10 rfl hHeld ?_
      try simp only [zA, zB, zC, Act.put, zD, zE, zF]
      refine tkL 14 rfl hHeld ?_
      try simp only [zA, zB, zC, Act.put, zD, zE, zF]
      refine wpAnyH_ready (rs := [15]) (by kernel_rfl) (by simp) ?_; refine AllReadyH.cons rfl (fun K hK => ?_) AllReadyH.nil
      try simp only [zA, zB, zC]
      go_simp
      refine hK.out _ _ h6 (fun _ => ?_)
      clear hK K hHeld h5 kN fN
      obtain ⟨we, hwe⟩ : ∃ z : World, w5.setCell ⟨R, 25 + n, none⟩ (.int .i64 (X + 1)) = z := ⟨_, rfl⟩
      rewrite [hwe] at kM fM HS2 h6 h7 ⊢
      clear hwe
      try simp only [zA, zB, zC, Act.put, zD, zE, zF]
      have hHeld := h6
      refine tkL 19 rfl hHeld ?_
      try simp only [zA, zB, zC, Act.put, zD, zE, zF]
      refine wpAnyH_ready (rs := [20]) (by kernel_rfl) (by simp) ?_; refine AllReadyH.cons rfl (fun K hK => ?_) AllReadyH.nil
      try simp only [zA, zB, zC]
      go_simp
      refine hK.out _ _ h7 (fun _ => ?_)
      clear hK K hHeld h6 h7 kM fM
      try simp only [zA, zB, zC, Act.put, zD, zE, zF]
      refine wpAnyH_done (by kernel_rfl) ?_ _
      go_wp2_with fail
      go_roundw
      case rel => exact ⟨n + 1, by omega, by go_num, by rw [HNX.out]; exact HS2⟩
      case measure => simp [intOf]; omega
    · obtain rfl : n = 10 := by omega
      have hd : decide ((10 : Int) < 10) = false := by simp
      obtain ⟨cl, hcl⟩ : ∃ cl, leadC c = cl := ⟨_, rfl⟩
      have hAL : AcW 76 B wk R ⟨cl, p, k⟩ v l := HS.out.1.alike (by rw [← hcl]; exact HCL.out) (by rw [← hcl, ldF_l]; exact HCBL.out.symm) rfl rfl
      have HFL : Hid (CoFit N cl) := by show CoFit N cl; rw [← hcl]; exact HF.out.lead
      have HR2 := Lib.hid HS.out.2
      have HID := Lib.hid (show cl.id = ((cl.id.toNat : Nat) : Int) ∧ cl.id.toNat < 10 from by have := HFL.out.id0; have := HFL.out.id1; omega)
      have HPU := Lib.hid (show Calls Tryz.prog 80 #[.pointer (some ⟨R, 0, none⟩), .agg #[.int .i64 0, .int .i64 0, .string ⟨#[]⟩, .int .u16 0, .int .u16 0, .int .u16 0, .int .i64 0, .int .i64 0, .int .u16 0, .int .u16 0, .int .u16 0, .int .i64 0, .int .i64 0, .bool false]] wk fun r w' => r = .returned (.tuple #[]) ∧ ∃ q d, AcW 76 B w' R ⟨pushC cl ent0, q, d⟩ v l ∧ AcR wk w' R v v from rpush_act B R cl.id.toNat cl p k v l ent0 wk hAL HFL.out.lo.f HID.out.1 HID.out.2 (by have := HFL.out.n; have := HNN.out; omega))
      have HWC : Hid (winC c = countsC (pushC cl ent0)) := by show _ = _; unfold winC; rw [hcl]
      clear HS hcl hAL
      go_wp2_with fail
      refine HPU.out.mono ?_; rintro r w2 ⟨rfl, q2, d2, hA2, hr2⟩
      have HR3 := Lib.hid (HR2.out.trans hr2)
      have HFP : Hid (CoFit (N + 1) (pushC cl ent0)) := HFL.out.push (by have := HNN.out; omega) ent0_ok
      have HCO := Lib.hid (rcounts_act B R (N + 1) (pushC cl ent0) q2 d2 v l w2 hA2 HFP.out (by have := HNN.out; omega))
      clear hA2 hr2 HPU HR2
      go_wp2_with fail
      refine HCO.out.mono ?_; rintro r w3 ⟨rfl, q3, d3, hA3, hr3⟩
      rewrite [← HWC.out] at hA3
      have HR4 := Lib.hid (HR3.out.trans hr3)
      have HFW := Lib.hid (show CoFit (N + 2) (winC c) from HF.out.win (by have := HNN.out; omega))
      have HAL := Lib.hid (rall_act B R (winC c) q3 d3 v l w3 hA3 HFW.out.lo.f ⟨HFW.out.id0, HFW.out.id1⟩ HFW.out.lo.conf.m HFW.out.lo.conf.f HFW.out.nx (by have := HLL.out; omega))
      clear hA3 hr3 HCO HR3
      go_wp2_with fail
      refine HAL.out.mono ?_; rintro r w4 ⟨rfl, v4, l4, hl4, hA4, hr4⟩
      have HO := Lib.hid (And.intro hl4 (And.intro hA4 (HR4.out.trans hr4)))
      clear hl4 hA4 hr4 HAL
      go_wp2_with fail
      first | go_end0 | refine bodyPost_ret (results_none rfl _ _ _) rfl ?_
      exact ⟨rfl, v4, q3, d3, l4, HO.out.1, HO.out.2.1, HO.out.2.2⟩
end Go.Proofs.YtbnndbdnejfehaaGreatDoor
/- Core: methods of an act: it asks for votes (the program's). -/
namespace Go.Proofs.YtbnndbdnejfehaaGreatDoor
open Go.ChangeShapes Go.WideShapes Go.ChangeAt Go.RowKit

/-- One cell holds a value. -/
structure One (R n : Nat) (u : Value) (w' : World) : Prop where
  r : w'.cell? ⟨R, n, none⟩ = some u
def askL (c : Co) : List Ms := (listS (dropS (votingN (confL c.l)) c.id)).map fun n => putM c n (askM c)
theorem foldl_ask (c : Co) : ∀ (L : List Int) (out : List Ms), L.foldl (fun b n => sendA b n (askM b.c)) ⟨c, out⟩ = ⟨c, out ++ L.map fun n => putM c n (askM c)⟩
  | [], out => by simp
  | n :: L, out => by
    rw [List.foldl_cons]
    show L.foldl (fun b n => sendA b n (askM b.c)) (⟨c, out ++ [putM c n (askM c)]⟩ : Ac) = _
    rw [foldl_ask c L]; simp
theorem stands_yes {c : Co} (o : List Ms) (h : electsN (confL c.l) (candC c).vs = true) : standsA ⟨c, o⟩ = ⟨winC (candC c), o ++ allM (winC (candC c))⟩ := by
  unfold standsA
  rw [if_pos h]; exact wins_eq _ _
theorem stands_no {c : Co} (o : List Ms) (h : electsN (confL c.l) (candC c).vs = false) : standsA ⟨c, o⟩ = ⟨candC c, o ++ askL (candC c)⟩ := by
  unfold standsA
  rw [if_neg (by rw [h]; decide)]
  exact foldl_ask (candC c) _ o
theorem CoFit.cand {N : Nat} {c : Co} (h : CoFit N c) : CoFit N (candC c) := ⟨h.lo, h.n, h.id0, h.id1, h.nx, h.mt, h.cm0, h.cm1⟩

set_option maxRecDepth 100000 in
set_option maxHeartbeats 16000000 in
theorem stands_act (B R N : Nat) (c : Co) (p : Option Addr) (k : Nat) (v : Value) (l : List MsX) (w : World) (h : AcW 69 B w R ⟨c, p, k⟩ v l) (hB : 0 < B) (hT : Tab w) (hF : CoFit N c) (htm : 0 ≤ c.tm ∧ c.tm ≤ 2199023255552) (hN : N < 600000) (hl : l.length ≤ 80000) :
    Calls Tryz.prog 69 #[.pointer (some ⟨R, 0, none⟩)] w fun e w' => e = .returned (.tuple #[]) ∧ ∃ v' q d l', l'.map MsX.m = (standsA ⟨c, l.map MsX.m⟩).out ∧ AcW 69 B w' R ⟨(standsA ⟨c, l.map MsX.m⟩).c, q, d⟩ v' l' ∧ AcR w w' R v v' := by
  obtain ⟨J, hJ⟩ : ∃ J, confL c.l = J := ⟨_, rfl⟩
  obtain ⟨vs, hvs⟩ : ∃ vs, withS 0 c.id = vs := ⟨_, rfl⟩
  obtain ⟨cd, hcd⟩ : ∃ cd, candC c = cd := ⟨_, rfl⟩
  have hcdl : cd.l = c.l := by rw [← hcd]; rfl
  have hcdi : cd.id = c.id := by rw [← hcd]; rfl
  have hcdv : cd.vs = vs := by rw [← hcd, ← hvs]; rfl
  have hFd : CoFit N cd := by rw [← hcd]; exact hF.cand
  have hce : { c with tm := c.tm + 1, role := 1, vt := c.id, vs := vs, ld := 0, wt := 0 } = cd := by rw [← hcd, ← hvs]; rfl
  have hwr : IntKind.i64.wrap (c.tm + 1) = c.tm + 1 := by rw [IntKind.wrap_i64]; omega
  have HJO : Hid (JnO J) := by show JnO J; rw [← hJ]; exact hF.lo.conf
  have HA0 := Lib.hid h; have HF : Hid (CoFit N cd) := hFd; have HB0 := Lib.hid hB; have HT := Lib.hid hT; have HNN := Lib.hid hN; have HLL := Lib.hid hl
  have HCE := Lib.hid hce; have HCD := Lib.hid hcd; have HCDL := Lib.hid hcdl; have HCDI := Lib.hid hcdi; have HCDV := Lib.hid hcdv; have HJ := Lib.hid hJ; have HVS := Lib.hid hvs
  have hp1 := h.put 2 (.int .i64 (c.tm + 1)) (by decide) ⟨{ c with tm := c.tm + 1 }, p, k⟩ rfl rfl rfl rfl
  have k2 : w.cell? ⟨R, 2, none⟩ = some (.int .i64 c.tm) := block_cells h.blk 2
  have f2 : w.frozen? ⟨R, 2, none⟩ = false := block_free h.blk 2
  have HA1 := Lib.hid hp1.1; have HR1 := Lib.hid hp1.2
  clear h hB hT hF hN hl hp1 hFd hce hcd hcdl hcdi hcdv hJ hvs
  go_enter Tryz.func69, Tryz.ntmps69
  go_upto_region 1 with fail
  obtain ⟨W1, hW1⟩ : ∃ z : World, w.setCell ⟨R, 2, none⟩ (.int .i64 (c.tm + 1)) = z := ⟨_, rfl⟩
  rw [hW1] at HA1 HR1 ⊢
  clear hW1 k2 f2 hwr
  have hA := HA1.out.keep (Below.refl _ _).drew
  have hr := HR1.out.drew
  have h0 : One R 0 (.int .i64 c.id) W1.drew := ⟨block_cells (w := W1.drew) hA.blk 0⟩
  refine wp_region_held_drew (S := One R 0 (.int .i64 c.id)) (by kernel_rfl) h0 (fun hHeld => ?_)
  obtain ⟨wd, ewd⟩ : ∃ x, W1.drew = x := ⟨_, rfl⟩
  rewrite [ewd] at hA hr h0 hHeld ⊢
  clear ewd HA1 HR1
  have k0 : ∀ w', One R 0 (.int .i64 c.id) w' → w'.cell? ⟨R, 0, none⟩ = some (.int .i64 c.id) := fun w' h => h.r
  refine tkL 0 rfl hHeld ?_
  try simp only [zA, zC, Act.put, zD, zE, zF]
  refine tkL 1 rfl hHeld ?_
  try simp only [zA, zB, zC, Act.put, zD, zE, zF]
  refine tkL 2 rfl hHeld ?_
  try simp only [zA, zB, zC, Act.put, zD, zE, zF]
  refine tkL 3 rfl hHeld ?_
  try simp only [zA, zB, zC, Act.put, zD, zE, zF]
  refine tkL 4 rfl hHeld ?_
  try simp only [zA, zB, zC, Act.put, zD, zE, zF]
  refine tkL 5 rfl hHeld ?_
  try simp only [zA, zB, zC, Act.put, zD, zE, zF]
  refine tkL 6 rfl hHeld ?_
  try simp only [zA, zB, zC, Act.put, zD, zE, zF]
  refine tkL 7 rfl hHeld ?_
  try simp only [zA, zB, zC, Act.put, zD, zE, zF]
  refine tkL 8 rfl hHeld ?_
  try simp only [zA, zB, zC, Act.put, zD, zE, zF]
  refine tkL 9 rfl hHeld ?_
  try simp only [zA, zB, zC, Act.put, zD, zE, zF]
  refine tkL 10 rfl hHeld ?_
  try simp only [zA, zB, zC, Act.put, zD, zE, zF]
  refine tkL 11 rfl hHeld ?_
  try simp only [zA, zB, zC, Act.put, zD, zE, zF]
  refine tkL 12 rfl hHeld ?_
  try simp only [zA, zB, zC, Act.put, zD, zE, zF]
  refine tkL 13 rfl hHeld ?_
  try simp only [zA, zB, zC, Act.put, zD, zE, zF]
  refine tkL 14 rfl hHeld ?_
  try simp only [zA, zB, zC, Act.put, zD, zE, zF]
  clear k0
  refine wpAnyH_ready (rs := [15]) (by kernel_rfl) (by simp) ?_; refine AllReadyH.cons rfl (fun K hK => ?_) AllReadyH.nil; (try simp only [zA, zB, zC]); go_simp
  refine (show Calls Tryz.prog 40 #[.int .u16 0, .int .i64 c.id] wd fun e w' => e = .returned (.int .u16 vs) ∧ wd = w' from by have := with_any 0 c.id wd; rw [show bits .or .u16 0 (oneB c.id) = vs from HVS.out] at this; exact this).mono ?_; rintro r0 w4 ⟨rfl, rfl⟩
  have hq0 := hA.put 1 (.int .i64 1) (by decide) ⟨{ c with tm := c.tm + 1, role := 1 }, p, k⟩ rfl rfl rfl rfl
  have k1 : wd.cell? ⟨R, 1, none⟩ = some (.int .i64 c.role) := block_cells hA.blk 1
  have f1 : wd.frozen? ⟨R, 1, none⟩ = false := block_free hA.blk 1
  have s0 : One R 0 (.int .i64 c.id) (wd.setCell ⟨R, 1, none⟩ (.int .i64 1)) := ⟨block_cells hq0.1.blk 0⟩
  have hq1 := hq0.1.put 3 (.int .i64 c.id) (by decide) ⟨{ c with tm := c.tm + 1, role := 1, vt := c.id }, p, k⟩ rfl rfl rfl rfl
  have k3 : (wd.setCell ⟨R, 1, none⟩ (.int .i64 1)).cell? ⟨R, 3, none⟩ = some (.int .i64 c.vt) := block_cells hq0.1.blk 3
  have f3 : (wd.setCell ⟨R, 1, none⟩ (.int .i64 1)).frozen? ⟨R, 3, none⟩ = false := block_free hq0.1.blk 3
  have s1 : One R 0 (.int .i64 c.id) ((wd.setCell ⟨R, 1, none⟩ (.int .i64 1)).setCell ⟨R, 3, none⟩ (.int .i64 c.id)) := ⟨block_cells hq1.1.blk 0⟩
  have hq2 := hq1.1.put 23 (.int .u16 vs) (by decide) ⟨{ c with tm := c.tm + 1, role := 1, vt := c.id, vs := vs }, p, k⟩ rfl rfl rfl rfl
  have k23 : ((wd.setCell ⟨R, 1, none⟩ (.int .i64 1)).setCell ⟨R, 3, none⟩ (.int .i64 c.id)).cell? ⟨R, 23, none⟩ = some (.int .u16 c.vs) := block_cells hq1.1.blk 23
  have f23 : ((wd.setCell ⟨R, 1, none⟩ (.int .i64 1)).setCell ⟨R, 3, none⟩ (.int .i64 c.id)).frozen? ⟨R, 23, none⟩ = false := block_free hq1.1.blk 23
  have s2 : One R 0 (.int .i64 c.id) (((wd.setCell ⟨R, 1, none⟩ (.int .i64 1)).setCell ⟨R, 3, none⟩ (.int .i64 c.id)).setCell ⟨R, 23, none⟩ (.int .u16 vs)) := ⟨block_cells hq2.1.blk 0⟩
  have hq3 := hq2.1.put 4 (.int .i64 0) (by decide) ⟨{ c with tm := c.tm + 1, role := 1, vt := c.id, vs := vs, ld := 0 }, p, k⟩ rfl rfl rfl rfl
  have k4 : (((wd.setCell ⟨R, 1, none⟩ (.int .i64 1)).setCell ⟨R, 3, none⟩ (.int .i64 c.id)).setCell ⟨R, 23, none⟩ (.int .u16 vs)).cell? ⟨R, 4, none⟩ = some (.int .i64 c.ld) := block_cells hq2.1.blk 4
  have f4 : (((wd.setCell ⟨R, 1, none⟩ (.int .i64 1)).setCell ⟨R, 3, none⟩ (.int .i64 c.id)).setCell ⟨R, 23, none⟩ (.int .u16 vs)).frozen? ⟨R, 4, none⟩ = false := block_free hq2.1.blk 4
  have s3 : One R 0 (.int .i64 c.id) ((((wd.setCell ⟨R, 1, none⟩ (.int .i64 1)).setCell ⟨R, 3, none⟩ (.int .i64 c.id)).setCell ⟨R, 23, none⟩ (.int .u16 vs)).setCell ⟨R, 4, none⟩ (.int .i64 0)) := ⟨block_cells hq3.1.blk 0⟩
  have hq4 := hq3.1.put 5 (.int .i64 0) (by decide) ⟨{ c with tm := c.tm + 1, role := 1, vt := c.id, vs := vs, ld := 0, wt := 0 }, p, k⟩ rfl rfl rfl rfl
  have k5 : ((((wd.setCell ⟨R, 1, none⟩ (.int .i64 1)).setCell ⟨R, 3, none⟩ (.int .i64 c.id)).setCell ⟨R, 23, none⟩ (.int .u16 vs)).setCell ⟨R, 4, none⟩ (.int .i64 0)).cell? ⟨R, 5, none⟩ = some (.int .i64 c.wt) := block_cells hq3.1.blk 5
  have f5 : ((((wd.setCell ⟨R, 1, none⟩ (.int .i64 1)).setCell ⟨R, 3, none⟩ (.int .i64 c.id)).setCell ⟨R, 23, none⟩ (.int .u16 vs)).setCell ⟨R, 4, none⟩ (.int .i64 0)).frozen? ⟨R, 5, none⟩ = false := block_free hq3.1.blk 5
  have s4 : One R 0 (.int .i64 c.id) (((((wd.setCell ⟨R, 1, none⟩ (.int .i64 1)).setCell ⟨R, 3, none⟩ (.int .i64 c.id)).setCell ⟨R, 23, none⟩ (.int .u16 vs)).setCell ⟨R, 4, none⟩ (.int .i64 0)).setCell ⟨R, 5, none⟩ (.int .i64 0)) := ⟨block_cells hq4.1.blk 0⟩
  have HR2 := Lib.hid (((((hr.trans hq0.2).trans hq1.2).trans hq2.2).trans hq3.2).trans hq4.2)
  have HA2 := Lib.hid hq4.1
  rw [HCE.out] at HA2
  clear hA hr hq0 hq1 hq2 hq3 hq4
  refine hK.out _ _ h0 (fun _ => ?_)
  clear hK K hHeld
  try simp only [zA, zB, zC, Act.put, zD, zE, zF]
  have hHeld := h0
  refine tkL 16 rfl hHeld ?_
  try simp only [zA, zB, zC, Act.put, zD, zE, zF]
  refine tkL 17 rfl hHeld ?_
  try simp only [zA, zB, zC, Act.put, zD, zE, zF]
  refine tkL 18 rfl hHeld ?_
  try simp only [zA, zB, zC, Act.put, zD, zE, zF]
  refine wpAnyH_ready (rs := [19]) (by kernel_rfl) (by simp) ?_; refine AllReadyH.cons rfl (fun K hK => ?_) AllReadyH.nil
  try simp only [zA, zB, zC]
  go_simp
  refine hK.out _ _ s0 (fun _ => ?_)
  clear hK K hHeld k1 f1
  try simp only [zA, zB, zC, Act.put, zD, zE, zF]
  have hHeld := s0
  refine tkL 20 rfl hHeld ?_
  try simp only [zA, zB, zC, Act.put, zD, zE, zF]
  refine tkL 21 rfl hHeld ?_
  try simp only [zA, zB, zC, Act.put, zD, zE, zF]
  refine tkL 22 rfl hHeld ?_
  try simp only [zA, zB, zC, Act.put, zD, zE, zF]
  refine wpAnyH_ready (rs := [23]) (by kernel_rfl) (by simp) ?_; refine AllReadyH.cons rfl (fun K hK => ?_) AllReadyH.nil
  try simp only [zA, zB, zC]
  go_simp
  refine hK.out _ _ s1 (fun _ => ?_)
  clear hK K hHeld k3 f3
  try simp only [zA, zB, zC, Act.put, zD, zE, zF]
  have hHeld := s1
  refine tkL 24 rfl hHeld ?_
  try simp only [zA, zB, zC, Act.put, zD, zE, zF]
  refine tkL 25 rfl hHeld ?_
  try simp only [zA, zB, zC, Act.put, zD, zE, zF]
  refine tkL 26 rfl hHeld ?_
  try simp only [zA, zB, zC, Act.put, zD, zE, zF]
  refine wpAnyH_ready (rs := [27]) (by kernel_rfl) (by simp) ?_; refine AllReadyH.cons rfl (fun K hK => ?_) AllReadyH.nil
  try simp only [zA, zB, zC]
  go_simp
  refine hK.out _ _ s2 (fun _ => ?_)
  clear hK K hHeld k23 f23
  try simp only [zA, zB, zC, Act.put, zD, zE, zF]
  have hHeld := s2
  refine tkL 28 rfl hHeld ?_
  try simp only [zA, zB, zC, Act.put, zD, zE, zF]
  refine tkL 29 rfl hHeld ?_
  try simp only [zA, zB, zC, Act.put, zD, zE, zF]
  refine tkL 30 rfl hHeld ?_
  try simp only [zA, zB, zC, Act.put, zD, zE, zF]
  refine wpAnyH_ready (rs := [31]) (by kernel_rfl) (by simp) ?_; refine AllReadyH.cons rfl (fun K hK => ?_) AllReadyH.nil
  try simp only [zA, zB, zC]
  go_simp
  refine hK.out _ _ s3 (fun _ => ?_)
  clear hK K hHeld k4 f4
  try simp only [zA, zB, zC, Act.put, zD, zE, zF]
  have hHeld := s3
  refine tkL 32 rfl hHeld ?_
  try simp only [zA, zB, zC, Act.put, zD, zE, zF]
  refine tkL 33 rfl hHeld ?_
  try simp only [zA, zB, zC, Act.put, zD, zE, zF]
  refine tkL 34 rfl hHeld ?_
  try simp only [zA, zB, zC, Act.put, zD, zE, zF]
  refine wpAnyH_ready (rs := [35]) (by kernel_rfl) (by simp) ?_; refine AllReadyH.cons rfl (fun K hK => ?_) AllReadyH.nil
  try simp only [zA, zB, zC]
  go_simp
  refine hK.out _ _ s4 (fun _ => ?_)
  clear hK K hHeld k5 f5
  try simp only [zA, zB, zC, Act.put, zD, zE, zF]
  refine wpAnyH_done (by kernel_rfl) ?_ _
  obtain ⟨W2, hW2⟩ : ∃ z : World, (((((wd.setCell ⟨R, 1, none⟩ (.int .i64 1)).setCell ⟨R, 3, none⟩ (.int .i64 c.id)).setCell ⟨R, 23, none⟩ (.int .u16 vs)).setCell ⟨R, 4, none⟩ (.int .i64 0)).setCell ⟨R, 5, none⟩ (.int .i64 0)) = z := ⟨_, rfl⟩
  rw [hW2] at HA2 HR2 ⊢
  clear hW2 h0 s0 s1 s2 s3 s4
  go_upto_region 2 with fail
  obtain ⟨G, hG⟩ : ∃ G, electsN J vs = G := ⟨_, rfl⟩
  have HG := Lib.hid hG
  clear hG
  have h0 : Below W2.heap.size W2 W2.drew := (Below.refl _ _).drew
  refine wp_region_held_drew (S := fun w' => Below W2.heap.size W2 w') (by kernel_rfl) h0 (fun hHeld => ?_)
  obtain ⟨wd2, ewd⟩ : ∃ x, W2.drew = x := ⟨_, rfl⟩
  rewrite [ewd] at h0 hHeld ⊢
  have k23 : ∀ w', Below W2.heap.size W2 w' → w'.cell? ⟨R, 23, none⟩ = some (.int .u16 vs) := fun w' h => by rw [← HCDV.out]; exact block_cells (below_block h HA2.out.lt HA2.out.blk) 23
  clear ewd
  refine tkL 0 rfl hHeld ?_
  try simp only [zA, zC, Act.put, zD, zE, zF]
  refine tkL 2 rfl hHeld ?_
  try simp only [zA, zB, zC, Act.put, zD, zE, zF]
  refine tkL 3 rfl hHeld ?_
  try simp only [zA, zB, zC, Act.put, zD, zE, zF]
  refine tkL 4 rfl hHeld ?_
  try simp only [zA, zB, zC, Act.put, zD, zE, zF]
  refine tkL 5 rfl hHeld ?_
  try simp only [zA, zB, zC, Act.put, zD, zE, zF]
  refine tkL 6 rfl hHeld ?_
  try simp only [zA, zB, zC, Act.put, zD, zE, zF]
  refine wpAnyH_ready (rs := [1]) (by kernel_rfl) (by simp) ?_; refine AllReadyH.cons rfl (fun K hK => ?_) AllReadyH.nil; (try simp only [zA, zB, zC]); go_simp
  refine (show Calls Tryz.prog 42 #[.pointer (some ⟨R, 0, none⟩)] wd2 fun e w' => e = .returned (.agg #[.int .u16 J.ov, .int .u16 J.ox, .int .u16 J.ol, .int .i64 J.oe, .int .i64 J.ok, .int .u16 J.nv, .int .u16 J.nx, .int .u16 J.nl, .int .i64 J.ne, .int .i64 J.nk, .bool J.two]) ∧ Below wd2.heap.size wd2 w' from by have := joint_act R cd p k v wd2 (below_block h0 HA2.out.lt HA2.out.blk) HF.out.lo.f ((EnSl.of_own HA2.out.en).keep h0 (Nat.le_refl _)); rw [HCDL.out, HJ.out] at this; exact this).mono ?_; rintro r0 w3 ⟨rfl, b3⟩
  have s3 := h0.trans (b3.mono h0.size)
  refine hK.out _ _ s3 (fun _ => ?_)
  clear hK K hHeld b3
  try simp only [zA, zB, zC, Act.put, zD, zE, zF]
  have hHeld := s3
  refine wpAnyH_ready (rs := [7]) (by kernel_rfl) (by simp) ?_; refine AllReadyH.cons rfl (fun K hK => ?_) AllReadyH.nil; (try simp only [zA, zB, zC]); go_simp
  refine (show Calls Tryz.prog 41 #[.agg #[.int .u16 J.ov, .int .u16 J.ox, .int .u16 J.ol, .int .i64 J.oe, .int .i64 J.ok, .int .u16 J.nv, .int .u16 J.nx, .int .u16 J.nl, .int .i64 J.ne, .int .i64 J.nk, .bool J.two], .int .u16 vs] w3 fun e w' => e = .returned (.bool G) ∧ Below w3.heap.size w3 w' from by have := jElects J vs w3; rw [HG.out] at this; exact this).mono ?_; rintro r0 w4 ⟨rfl, b4⟩
  have s4 := s3.trans (b4.mono s3.size)
  refine hK.out _ _ s4 (fun _ => ?_)
  clear hK K hHeld b4
  try simp only [zA, zB, zC, Act.put, zD, zE, zF]
  have hHeld := s4
  refine wpAnyH_done (by kernel_rfl) ?_ _
  have HA4 := Lib.hid (HA2.out.keep s4); have HR4 := Lib.hid (HR2.out.trans (AcR.below s4))
  clear hHeld s4 s3 h0 k23 HA2 HR2
  have HT4 := Lib.hid (HA0.out.tab HB0.out HT.out HR4.out)
  cases G with
  | true =>
    have HZ : Hid (standsA ⟨c, l.map MsX.m⟩ = ⟨winC cd, l.map MsX.m ++ allM (winC cd)⟩) := by show _ = _; rw [← HCD.out]; exact stands_yes _ (by rw [HJ.out, HCD.out, HCDV.out]; exact HG.out)
    have HWI := Lib.hid (wins_act B R N cd p k v l w4 HA4.out HB0.out HT4.out HF.out HNN.out HLL.out)
    go_wp2_with fail
    refine HWI.out.mono ?_; rintro r w5 ⟨rfl, v5, q5, d5, l5, hl5, hA5, hr5⟩
    have HO := Lib.hid (And.intro hl5 (And.intro hA5 (HR4.out.trans hr5)))
    clear hl5 hA5 hr5 HWI
    go_wp2_with fail
    first | go_end0 | refine bodyPost_ret (results_none rfl _ _ _) rfl ?_
    rw [HZ.out]
    exact ⟨rfl, v5, q5, d5, l5, HO.out.1, HO.out.2.1, HO.out.2.2⟩
  | false =>
    have HZ : Hid (standsA ⟨c, l.map MsX.m⟩ = ⟨cd, l.map MsX.m ++ askL cd⟩) := by show _ = _; rw [← HCD.out]; exact stands_no _ (by rw [HJ.out, HCD.out, HCDV.out]; exact HG.out)
    obtain ⟨X, hX⟩ : ∃ X, cd.l.last = X := ⟨_, rfl⟩
    obtain ⟨Y, hY⟩ : ∃ Y, lastTerm cd.l = Y := ⟨_, rfl⟩
    have HLA := Lib.hid (show Calls Tryz.prog 96 #[.pointer (some ⟨R, 0, none⟩)] w4 fun e w' => e = .returned (.tuple #[.int .i64 X, .int .i64 Y]) ∧ Below w4.heap.size w4 w' from by have := last_act R cd p k v w4 HA4.out.blk HF.out.lo.f (EnSl.of_own HA4.out.en); rw [hX, hY] at this; exact this)
    obtain ⟨V, hV⟩ : ∃ V, votingN J = V := ⟨_, rfl⟩
    obtain ⟨D, hD⟩ : ∃ D, dropS V cd.id = D := ⟨_, rfl⟩
    obtain ⟨O, hO⟩ : ∃ O, listS D = O := ⟨_, rfl⟩
    have hO9 : O.length ≤ 9 := by rw [← hO]; exact lst_le _ 9
    have hask : askM cd = { ms0 with k := 1, ix := X, lt := Y, cm := cd.cm } := by rw [← hX, ← hY]; rfl
    have hAL : askL cd = O.map fun n => putM cd n { ms0 with k := 1, ix := X, lt := Y, cm := cd.cm } := by unfold askL; rw [HCDL.out, HJ.out, hV, hD, hO, hask]
    have HV := Lib.hid hV; have HD := Lib.hid hD; have HO := Lib.hid hO; have HAL := Lib.hid hAL
    clear hX hY hV hD hO hask hAL
    go_wp2_with fail
    refine HLA.out.mono ?_; rintro r w5 ⟨rfl, b5⟩
    have HA5 := Lib.hid (HA4.out.keep b5); have HR5 := Lib.hid (HR4.out.trans (AcR.below b5)); have HT5 := Lib.hid (HT4.out.keep b5)
    clear b5 HLA HA4 HR4 HT4
    go_upto_region 5 with fail
    have h0 : Below w5.heap.size w5 w5.drew := (Below.refl _ _).drew
    refine wp_region_held_drew (S := fun w' => Below w5.heap.size w5 w') (by kernel_rfl) h0 (fun hHeld => ?_)
    obtain ⟨we, ewe⟩ : ∃ x, w5.drew = x := ⟨_, rfl⟩
    rewrite [ewe] at h0 hHeld ⊢
    have k0 : ∀ w', Below w5.heap.size w5 w' → w'.cell? ⟨R, 0, none⟩ = some (.int .i64 cd.id) := fun w' h => block_cells (below_block h HA5.out.lt HA5.out.blk) 0
    clear ewe
    refine tkL 0 rfl hHeld ?_
    try simp only [zA, zC, Act.put, zD, zE, zF]
    refine tkL 3 rfl hHeld ?_
    try simp only [zA, zB, zC, Act.put, zD, zE, zF]
    refine tkL 4 rfl hHeld ?_
    try simp only [zA, zB, zC, Act.put, zD, zE, zF]
    refine tkL 5 rfl hHeld ?_
    try simp only [zA, zB, zC, Act.put, zD, zE, zF]
    refine tkL 6 rfl hHeld ?_
    try simp only [zA, zB, zC, Act.put, zD, zE, zF]
    refine tkL 7 rfl hHeld ?_
    try simp only [zA, zB, zC, Act.put, zD, zE, zF]
    refine tkL 11 rfl hHeld ?_
    try simp only [zA, zB, zC, Act.put, zD, zE, zF]
    refine wpAnyH_ready (rs := [1]) (by kernel_rfl) (by simp) ?_; refine AllReadyH.cons rfl (fun K hK => ?_) AllReadyH.nil; (try simp only [zA, zB, zC]); go_simp
    refine (show Calls Tryz.prog 42 #[.pointer (some ⟨R, 0, none⟩)] we fun e w' => e = .returned (.agg #[.int .u16 J.ov, .int .u16 J.ox, .int .u16 J.ol, .int .i64 J.oe, .int .i64 J.ok, .int .u16 J.nv, .int .u16 J.nx, .int .u16 J.nl, .int .i64 J.ne, .int .i64 J.nk, .bool J.two]) ∧ Below we.heap.size we w' from by have := joint_act R cd p k v we (below_block h0 HA5.out.lt HA5.out.blk) HF.out.lo.f ((EnSl.of_own HA5.out.en).keep h0 (Nat.le_refl _)); rw [HCDL.out, HJ.out] at this; exact this).mono ?_; rintro r0 w6 ⟨rfl, b6⟩
    have s6 := h0.trans (b6.mono h0.size)
    refine hK.out _ _ s6 (fun _ => ?_)
    clear hK K hHeld b6
    try simp only [zA, zB, zC, Act.put, zD, zE, zF]
    have hHeld := s6
    refine wpAnyH_ready (rs := [2]) (by kernel_rfl) (by simp) ?_; refine AllReadyH.cons rfl (fun K hK => ?_) AllReadyH.nil; (try simp only [zA, zB, zC]); go_simp
    refine (show Calls Tryz.prog 123 #[.agg #[.int .u16 J.ov, .int .u16 J.ox, .int .u16 J.ol, .int .i64 J.oe, .int .i64 J.ok, .int .u16 J.nv, .int .u16 J.nx, .int .u16 J.nl, .int .i64 J.ne, .int .i64 J.nk, .bool J.two]] w6 fun e w' => e = .returned (.int .u16 V) ∧ Below w6.heap.size w6 w' from by have := jVoting J w6; rw [HV.out] at this; exact this).mono ?_; rintro r0 w7 ⟨rfl, b7⟩
    have s7 := s6.trans (b7.mono s6.size)
    refine hK.out _ _ s7 (fun _ => ?_)
    clear hK K hHeld b7
    try simp only [zA, zB, zC, Act.put, zD, zE, zF]
    have hHeld := s7
    refine wpAnyH_ready (rs := [8]) (by kernel_rfl) (by simp) ?_; refine AllReadyH.cons rfl (fun K hK => ?_) AllReadyH.nil; (try simp only [zA, zB, zC]); go_simp
    refine (show Calls Tryz.prog 122 #[.int .u16 V, .int .i64 cd.id] w7 fun e w' => e = .returned (.int .u16 D) ∧ w7 = w' from by have := less_any V cd.id w7; rw [show bits .andNot .u16 V (oneB cd.id) = D from HD.out] at this; exact this).mono ?_; rintro r0 w8 ⟨rfl, rfl⟩
    refine hK.out _ _ s7 (fun _ => ?_)
    clear hK K hHeld
    try simp only [zA, zB, zC, Act.put, zD, zE, zF]
    have hHeld := s7
    refine wpAnyH_ready (rs := [9]) (by kernel_rfl) (by simp) ?_; refine AllReadyH.cons rfl (fun K hK => ?_) AllReadyH.nil; (try simp only [zA, zB, zC]); go_simp
    refine (show Calls Tryz.prog 121 #[.int .u16 D] w7 fun e w' => ∃ v, e = .returned v ∧ w'.ownsRow w7.heap.size 3 1 v O.length (O.map (Value.int .i64)) ∧ Below w7.heap.size w7 w' from by have := list_any D w7 (by rw [← HD.out]; exact (bits_fit _ _ _).1) (HT5.out.keep s7); rw [show lst D 9 = O from HO.out] at this; exact this).mono ?_; rintro r0 w1 ⟨u, rfl, hu, b1⟩
    obtain ⟨pu, cu, rfl⟩ := own_formH hu
    have s1 := s7.trans (b1.mono s7.size)
    have hu2 := hu.mono s7.size
    refine hK.out _ _ s1 (fun _ => ?_)
    clear hK K hHeld b1 hu
    try simp only [zA, zB, zC, Act.put, zD, zE, zF]
    have hHeld := s1
    refine tkL 10 rfl hHeld ?_
    try simp only [zA, zB, zC, Act.put, zD, zE, zF]
    refine wpAnyH_done (by kernel_rfl) ?_ _
    have HU := Lib.hid hu2
    have HB1 : Hid (Below w5.heap.size w5 w1) := s1
    have HVL := Lib.hid (show ∀ g, w5.heap.size ≤ g → v.ownBlock ≠ some g from fun g hg e => by have := (HA5.out.vge _ e).2; omega)
    have HOR := Lib.hid (show ∀ x ∈ O, 1 ≤ x ∧ x ≤ 9 from by rw [← HO.out]; intro x hx; have := lst_range _ 9 x hx; omega)
    clear hHeld s1 s7 s6 h0 k0 hu2
    go_wp2_with fail
    go_loopw [72] (fun i wr => ∃ n : Nat, n ≤ O.length ∧ i = .int .i64 n ∧ Hid (∃ v' l', l'.map MsX.m = l.map MsX.m ++ (O.take n).map (fun n => putM cd n { ms0 with k := 1, ix := X, lt := Y, cm := cd.cm }) ∧ l'.length = l.length + n ∧ AcW 69 B wr R ⟨cd, p, k⟩ v' l' ∧ AcR w wr R v v' ∧ w1.heap.size ≤ wr.heap.size ∧ ∀ g, w5.heap.size ≤ g → g < w1.heap.size → wr.heap[g]? = w1.heap[g]? ∧ v'.ownBlock ≠ some g)) (fun i _ => O.length - (intOf i).toNat)
    case atStart => exact ⟨0, Nat.zero_le _, rfl, v, l, by simp, rfl, HA5.out.keep HB1.out, HR5.out.trans (AcR.below HB1.out), Nat.le_refl _, fun g hg _ => ⟨rfl, HVL.out g hg⟩⟩
    case round =>
      obtain ⟨n, hn, rfl, HS⟩ := hrel
      obtain ⟨wk, rfl⟩ : ∃ wk : World, wk = wr := ⟨_, rfl⟩
      by_cases hlt : n < O.length
      · have hd : decide ((n : Int) < (O.length : Int)) = true := by simp; omega
        have hkm : (n : Int) < (O.length : Int) := by omega
        obtain ⟨v', l', hl1, hl2, hA, hr, hsz, hg⟩ := HS.out
        obtain ⟨g, rfl, hgb, hgl, hgc⟩ := own_at2 HU.out hlt
        obtain ⟨x, hxx⟩ : ∃ x, O[n] = x := ⟨_, rfl⟩
        have hcell : wk.cell? ⟨g, n, none⟩ = some (.int .i64 x) := by rw [hgc wk (hg g hgb hgl).1 n hlt, List.getElem?_map, List.getElem?_eq_getElem hlt, hxx]; rfl
        have k6 : wk.cell? ⟨R, 6, none⟩ = some (.int .i64 cd.cm) := block_cells hA.blk 6
        have HC := Lib.hid (show Calls Tryz.prog 89 #[.pointer (some ⟨R, 0, none⟩), .int .i64 x, .agg #[.int .i64 1, .int .i64 0, .int .i64 0, .int .i64 0, .int .i64 X, .int .i64 Y, .int .i64 cd.cm, .int .i64 0, .bool false, .slice none 0 0, .string ⟨#[]⟩, .int .u16 0, .int .u16 0, .int .u16 0, .int .i64 0, .int .i64 0, .int .u16 0, .int .u16 0, .int .u16 0, .int .i64 0, .int .i64 0, .bool false]] wk fun e w' => e = .returned (.tuple #[]) ∧ ∃ v2, AcW 69 B w' R ⟨cd, p, k⟩ v2 (l' ++ [⟨putM cd x { ms0 with k := 1, ix := X, lt := Y, cm := cd.cm }, none, 0⟩]) ∧ AcR wk w' R v' v2 from send_act B R cd p k v' l' x { ms0 with k := 1, ix := X, lt := Y, cm := cd.cm } none 0 wk hA (MsOwn.none rfl) (fun b hb => by cases hb) (by have := HLL.out; omega))
        have HNX := Lib.hid (show ∀ v2 l2 (w2 : World), l2.map MsX.m = (l' ++ [(⟨putM cd x { ms0 with k := 1, ix := X, lt := Y, cm := cd.cm }, none, 0⟩ : MsX)]).map MsX.m → l2.length = l'.length + 1 → AcW 69 B w2 R ⟨cd, p, k⟩ v2 l2 → AcR wk w2 R v' v2 → ∃ v' l', l'.map MsX.m = l.map MsX.m ++ (O.take (n + 1)).map (fun n => putM cd n { ms0 with k := 1, ix := X, lt := Y, cm := cd.cm }) ∧ l'.length = l.length + (n + 1) ∧ AcW 69 B w2 R ⟨cd, p, k⟩ v' l' ∧ AcR w w2 R v v' ∧ w1.heap.size ≤ w2.heap.size ∧ ∀ g, w5.heap.size ≤ g → g < w1.heap.size → w2.heap[g]? = w1.heap[g]? ∧ v'.ownBlock ≠ some g from fun v2 l2 w2 e1 e2 hA2 hr2 => ⟨v2, l2, by
            rw [e1, List.map_append, hl1, List.take_succ_eq_append_getElem hlt, List.map_append, hxx, List.append_assoc]; rfl, by omega, hA2, hr.trans hr2, Nat.le_trans hsz hr2.size, fun g hg1 hg2 => by
            obtain ⟨h1, h2⟩ := hg g hg1 hg2
            have hRg : g ≠ R := by have := HA5.out.lt; omega
            obtain ⟨h3, h4⟩ := hr2.oth g (by omega) hRg h2
            exact ⟨h3.trans h1, h4⟩⟩)
        clear hl1 hl2 hA hr hsz hg hgc hxx HS hgb hgl
        go_wp2_with fail
        refine HC.out.mono ?_; rintro r w2 ⟨rfl, v2, hA2, hr2⟩
        have HS2 := Lib.hid (HNX.out v2 _ w2 rfl (by simp) hA2 hr2)
        clear hA2 hr2 HC HNX hcell k6
        go_wp2_with fail
        go_roundw
        case rel => exact ⟨n + 1, by omega, by go_num, HS2⟩
        case measure => simp [intOf]; omega
      · obtain rfl : n = O.length := by omega
        have hd : decide ((O.length : Int) < (O.length : Int)) = false := by simp
        obtain ⟨v', l', hl1, -, hA, hr, -, -⟩ := HS.out
        rw [List.take_of_length_le (Nat.le_refl _), ← HAL.out] at hl1
        have HO2 := Lib.hid (And.intro hl1 (And.intro hA hr))
        clear hl1 hA hr HS
        go_wp2_with fail
        first | go_end0 | refine bodyPost_ret (results_none rfl _ _ _) rfl ?_
        rw [HZ.out]
        exact ⟨rfl, v', p, k, l', HO2.out.1, HO2.out.2.1, HO2.out.2.2⟩
end Go.Proofs.YtbnndbdnejfehaaGreatDoor
/- The references: a log pushed, a log copied. -/
namespace Go.Proofs.YtbnndbdnejfehaaGreatDoor
open Go.ChangeShapes Go.WideShapes Go.ChangeAt Go.RowKit

set_option maxRecDepth 100000 in
set_option maxHeartbeats 8000000 in
theorem copy_any (l : Lg) (p : Option Addr) (c : Nat) (w : World) (hn : l.es.length ≤ 1000000) (hE : EnSl w (.slice p l.es.length c) l.es) :
    Calls Tryz.prog 11 #[.agg #[.int .i64 l.b, .int .i64 l.bt, .int .u16 l.j.ov, .int .u16 l.j.ox, .int .u16 l.j.ol, .int .i64 l.j.oe, .int .i64 l.j.ok, .int .u16 l.j.nv, .int .u16 l.j.nx, .int .u16 l.j.nl, .int .i64 l.j.ne, .int .i64 l.j.nk, .bool l.j.two, .slice p l.es.length c]] w (LgEnd w.heap.size w l) := by
  obtain ⟨i0, hi, hz0, hz1, hz2⟩ := info_parts Tryz.infoEn
  have hA : ((w.alloc (.cells #[.int .i64 l.b, .int .i64 l.bt, .int .u16 l.j.ov, .int .u16 l.j.ox, .int .u16 l.j.ol, .int .i64 l.j.oe, .int .i64 l.j.ok, .int .u16 l.j.nv, .int .u16 l.j.nx, .int .u16 l.j.nl, .int .i64 l.j.ne, .int .i64 l.j.nk, .bool l.j.two, .slice p l.es.length c] 30)).alloc (.cells #[.int .i64 0, .int .i64 0, .int .u16 0, .int .u16 0, .int .u16 0, .int .i64 0, .int .i64 0, .int .u16 0, .int .u16 0, .int .u16 0, .int .i64 0, .int .i64 0, .bool false, .slice none 0 0] 30)).heap[w.heap.size]? = some (.cells #[.int .i64 l.b, .int .i64 l.bt, .int .u16 l.j.ov, .int .u16 l.j.ox, .int .u16 l.j.ol, .int .i64 l.j.oe, .int .i64 l.j.ok, .int .u16 l.j.nv, .int .u16 l.j.nx, .int .u16 l.j.nl, .int .i64 l.j.ne, .int .i64 l.j.nk, .bool l.j.two, .slice p l.es.length c] 30 (0, 0)) := heap_prev _ (heap_last w _)
  have hZ : ((w.alloc (.cells #[.int .i64 l.b, .int .i64 l.bt, .int .u16 l.j.ov, .int .u16 l.j.ox, .int .u16 l.j.ol, .int .i64 l.j.oe, .int .i64 l.j.ok, .int .u16 l.j.nv, .int .u16 l.j.nx, .int .u16 l.j.nl, .int .i64 l.j.ne, .int .i64 l.j.nk, .bool l.j.two, .slice p l.es.length c] 30)).alloc (.cells #[.int .i64 0, .int .i64 0, .int .u16 0, .int .u16 0, .int .u16 0, .int .i64 0, .int .i64 0, .int .u16 0, .int .u16 0, .int .u16 0, .int .i64 0, .int .i64 0, .bool false, .slice none 0 0] 30)).heap[w.heap.size + 1]? = some (.cells #[.int .i64 0, .int .i64 0, .int .u16 0, .int .u16 0, .int .u16 0, .int .i64 0, .int .i64 0, .int .u16 0, .int .u16 0, .int .u16 0, .int .i64 0, .int .i64 0, .bool false, .slice none 0 0] 30 (0, 0)) := heap_atL (by simp)
  have hB : Below w.heap.size w ((w.alloc (.cells #[.int .i64 l.b, .int .i64 l.bt, .int .u16 l.j.ov, .int .u16 l.j.ox, .int .u16 l.j.ol, .int .i64 l.j.oe, .int .i64 l.j.ok, .int .u16 l.j.nv, .int .u16 l.j.nx, .int .u16 l.j.nl, .int .i64 l.j.ne, .int .i64 l.j.nk, .bool l.j.two, .slice p l.es.length c] 30)).alloc (.cells #[.int .i64 0, .int .i64 0, .int .u16 0, .int .u16 0, .int .u16 0, .int .i64 0, .int .i64 0, .int .u16 0, .int .u16 0, .int .u16 0, .int .i64 0, .int .i64 0, .bool false, .slice none 0 0] 30)) := ((Below.refl _ w).alloc (Nat.le_refl _) _).alloc (by simp) _
  have HS := Lib.hid (hE.keep hB (Nat.le_refl _))
  have HL := Lib.hid (entC_one l.es)
  have hs2 : w.heap.size + 2 = ((w.alloc (.cells #[.int .i64 l.b, .int .i64 l.bt, .int .u16 l.j.ov, .int .u16 l.j.ox, .int .u16 l.j.ol, .int .i64 l.j.oe, .int .i64 l.j.ok, .int .u16 l.j.nv, .int .u16 l.j.nx, .int .u16 l.j.nl, .int .i64 l.j.ne, .int .i64 l.j.nk, .bool l.j.two, .slice p l.es.length c] 30)).alloc (.cells #[.int .i64 0, .int .i64 0, .int .u16 0, .int .u16 0, .int .u16 0, .int .i64 0, .int .i64 0, .int .u16 0, .int .u16 0, .int .u16 0, .int .i64 0, .int .i64 0, .bool false, .slice none 0 0] 30)).heap.size := by simp
  have HW := Lib.hid (And.intro hA (And.intro hZ (And.intro hB hs2)))
  clear hA hZ hB hE hs2
  go_enter Tryz.func11, Tryz.ntmps11
  go_upto_region 1 with fail
  obtain ⟨W, hW⟩ : ∃ W, (w.alloc (.cells #[.int .i64 l.b, .int .i64 l.bt, .int .u16 l.j.ov, .int .u16 l.j.ox, .int .u16 l.j.ol, .int .i64 l.j.oe, .int .i64 l.j.ok, .int .u16 l.j.nv, .int .u16 l.j.nx, .int .u16 l.j.nl, .int .i64 l.j.ne, .int .i64 l.j.nk, .bool l.j.two, .slice p l.es.length c] 30)).alloc (.cells #[.int .i64 0, .int .i64 0, .int .u16 0, .int .u16 0, .int .u16 0, .int .i64 0, .int .i64 0, .int .u16 0, .int .u16 0, .int .u16 0, .int .i64 0, .int .i64 0, .bool false, .slice none 0 0] 30) = W := ⟨_, rfl⟩
  rw [hW] at HW HS ⊢
  clear hW
  have kA := block_cells HW.out.1
  have fA := block_free HW.out.1
  have hAW := block_lt HW.out.1
  have hne : w.heap.size ≠ W.heap.size := by omega
  go_wp2_with (at_builtin; refine wpList_append_sl rfl _ _ 28 rfl W.heap.size 47 i0 (.agg #[.int .i64 0, .int .i64 0, .string ⟨#[]⟩, .int .u16 0, .int .u16 0, .int .u16 0, .int .i64 0, .int .i64 0, .int .u16 0, .int .u16 0, .int .u16 0, .int .i64 0, .int .i64 0, .bool false]) 14 88 Tryz.underlying28 hi hz0 hz1 hz2 rfl (by decide) _ 0 [] rfl (World.ownsRow_made W #[] 0 (Nat.le_refl _) (Nat.zero_le _) (by simp)) W.heap.size _ l.es.length (entRow l.es) rfl (Sl.keep HS.out (((Below.refl _ _).alloc (Nat.le_refl _) _))) HL.out ?_ ?_ (by simp) ?_)
  · unfold maxLen; omega
  · omega
  intro v3 w3 hown3 hgrow3
  obtain ⟨q, cc, rfl⟩ := own_slice hown3
  have HO3 := Lib.hid hown3
  clear hown3
  have hA1 : (W.alloc (.cells #[] 47)).heap[w.heap.size]? = some (.cells #[.int .i64 l.b, .int .i64 l.bt, .int .u16 l.j.ov, .int .u16 l.j.ox, .int .u16 l.j.ol, .int .i64 l.j.oe, .int .i64 l.j.ok, .int .u16 l.j.nv, .int .u16 l.j.nx, .int .u16 l.j.nl, .int .i64 l.j.ne, .int .i64 l.j.nk, .bool l.j.two, .slice p l.es.length c] 30 (0, 0)) := heap_prev _ HW.out.1
  have hZ1 : (W.alloc (.cells #[] 47)).heap[w.heap.size + 1]? = some (.cells #[.int .i64 0, .int .i64 0, .int .u16 0, .int .u16 0, .int .u16 0, .int .i64 0, .int .i64 0, .int .u16 0, .int .u16 0, .int .u16 0, .int .i64 0, .int .i64 0, .bool false, .slice none 0 0] 30 (0, 0)) := heap_prev _ HW.out.2.1
  have hA3 := (hgrow3.block _ (block_lt hA1) (by simp [Value.ownBlock]; omega)).trans hA1
  have hZ3 := (hgrow3.block _ (block_lt hZ1) (by have := HW.out.2.2.2; simp [Value.ownBlock]; omega)).trans hZ1
  have hB3 : Below w.heap.size w w3 := (HW.out.2.2.1.alloc (by omega) _).grown hgrow3 (by simp; omega) (by intro k hk; simp [Value.ownBlock] at hk; omega)
  have hA4 := cells_setL hA3 13 (.slice q l.es.length cc)
  simp only [zD, zE, zF] at hA4
  have hZ4 : (w3.setCell ⟨w.heap.size, 13, none⟩ (.slice q l.es.length cc)).heap[w.heap.size + 1]? = some (.cells #[.int .i64 0, .int .i64 0, .int .u16 0, .int .u16 0, .int .u16 0, .int .i64 0, .int .i64 0, .int .u16 0, .int .u16 0, .int .u16 0, .int .i64 0, .int .i64 0, .bool false, .slice none 0 0] 30 (0, 0)) := (Below.heap_setCell _ _ _ _ (by show w.heap.size + 1 ≠ w.heap.size; omega)).trans hZ3
  have hO4 := own_farL HO3.out (grown_setL (grown_reflL w3 (some w.heap.size)) 13 (.slice q l.es.length cc)) hAW
  have hB4 := hB3.setCell (p := ⟨w.heap.size, 13, none⟩) (Nat.le_refl _) (.slice q l.es.length cc)
  have hbs := HW.out.2.2.2
  have H4 := Lib.hid (And.intro hA4 (And.intro hZ4 (And.intro hO4 hB4)))
  have kA3 := block_cells hA3
  have fA3 := block_free hA3
  clear hA1 hZ1 hA4 hZ4 hO4 hB4 hB3 hZ3 kA fA HO3 hgrow3 hA3
  go_upto_region 2 with fail
  obtain ⟨W4, hW4⟩ : ∃ W4, w3.setCell ⟨w.heap.size, 13, none⟩ (.slice q l.es.length cc) = W4 := ⟨_, rfl⟩
  rw [hW4] at H4 ⊢
  have kA := block_cells H4.out.1
  have kZ := block_cells H4.out.2.1
  have fZ := block_free H4.out.2.1
  clear hW4 kA3 fA3
  go_wp2_with fail
  have F := put14_ok H4.out.2.1 H4.out.2.2.2 (Nat.le_succ _) (.int .i64 l.b) (.int .i64 l.bt) (.int .u16 l.j.ov) (.int .u16 l.j.ox) (.int .u16 l.j.ol) (.int .i64 l.j.oe) (.int .i64 l.j.ok) (.int .u16 l.j.nv) (.int .u16 l.j.nx) (.int .u16 l.j.nl) (.int .i64 l.j.ne) (.int .i64 l.j.nk) (.bool l.j.two) (.slice q l.es.length cc)
  have G := own_farL H4.out.2.2.1 (put14_grown W4 (w.heap.size + 1) (.int .i64 l.b) (.int .i64 l.bt) (.int .u16 l.j.ov) (.int .u16 l.j.ox) (.int .u16 l.j.ol) (.int .i64 l.j.oe) (.int .i64 l.j.ok) (.int .u16 l.j.nv) (.int .u16 l.j.nx) (.int .u16 l.j.nl) (.int .i64 l.j.ne) (.int .i64 l.j.nk) (.bool l.j.two) (.slice q l.es.length cc)) (by omega)
  have kF := block_cells F.1
  obtain ⟨W5, hW5⟩ : ∃ W5, put14 W4 (w.heap.size + 1) (.int .i64 l.b) (.int .i64 l.bt) (.int .u16 l.j.ov) (.int .u16 l.j.ox) (.int .u16 l.j.ol) (.int .i64 l.j.oe) (.int .i64 l.j.ok) (.int .u16 l.j.nv) (.int .u16 l.j.nx) (.int .u16 l.j.nl) (.int .i64 l.j.ne) (.int .i64 l.j.nk) (.bool l.j.two) (.slice q l.es.length cc) = W5 := ⟨_, rfl⟩
  rw [hW5] at F G kF
  unfold put14 at hW5
  rw [hW5]
  refine bodyPost_ret (v := .agg #[.int .i64 l.b, .int .i64 l.bt, .int .u16 l.j.ov, .int .u16 l.j.ox, .int .u16 l.j.ol, .int .i64 l.j.oe, .int .i64 l.j.ok, .int .u16 l.j.nv, .int .u16 l.j.nx, .int .u16 l.j.nl, .int .i64 l.j.ne, .int .i64 l.j.nk, .bool l.j.two, .slice q l.es.length cc]) ?_ rfl ⟨q, cc, rfl, G.mono (by omega), F.2⟩
  simp [results, Tryz.results11, go_sem, kF]
end Go.Proofs.YtbnndbdnejfehaaGreatDoor
