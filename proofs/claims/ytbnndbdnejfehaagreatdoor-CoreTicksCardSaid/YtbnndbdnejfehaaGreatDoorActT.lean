/- Core: a moment later (the reference's Tick). -/
import Derived.Test.YtbnndbdnejfehaaGreatDoorActS
import Derived.Test.YtbnndbdnejfehaaGreatDoorLogP
namespace Go.Proofs.YtbnndbdnejfehaaGreatDoor
open Go.ChangeShapes Go.WideShapes Go.ChangeAt Go.RowKit

set_option maxRecDepth 100000 in
set_option maxHeartbeats 16000000 in
theorem rtick_any (N : Nat) (c : Co) (p : Option Addr) (k : Nat) (w : World) (hF : CoFit N c) (htm : 0 ≤ c.tm ∧ c.tm ≤ 2199023255552) (hwt : 0 ≤ c.wt ∧ c.wt ≤ 2199023255552) (hN : N < 500000) (hhd : 0 ≤ c.hd ∧ c.hd ≤ 65535) (hE : EnSl w (.slice p c.l.es.length k) c.l.es) :
    Calls Tryz.prog 20 #[.agg #[.int .i64 c.id, .int .i64 c.role, .int .i64 c.tm, .int .i64 c.vt, .int .i64 c.ld, .int .i64 c.wt, .int .i64 c.cm, .int .i64 c.sf, .int .i64 c.l.b, .int .i64 c.l.bt, .int .u16 c.l.j.ov, .int .u16 c.l.j.ox, .int .u16 c.l.j.ol, .int .i64 c.l.j.oe, .int .i64 c.l.j.ok, .int .u16 c.l.j.nv, .int .u16 c.l.j.nx, .int .u16 c.l.j.nl, .int .i64 c.l.j.ne, .int .i64 c.l.j.nk, .bool c.l.j.two, .slice p c.l.es.length k, .string c.sn, .int .u16 c.vs, .int .u16 c.hd, .int .i64 (c.nx 0), .int .i64 (c.nx 1), .int .i64 (c.nx 2), .int .i64 (c.nx 3), .int .i64 (c.nx 4), .int .i64 (c.nx 5), .int .i64 (c.nx 6), .int .i64 (c.nx 7), .int .i64 (c.nx 8), .int .i64 (c.nx 9), .int .i64 (c.mt 0), .int .i64 (c.mt 1), .int .i64 (c.mt 2), .int .i64 (c.mt 3), .int .i64 (c.mt 4), .int .i64 (c.mt 5), .int .i64 (c.mt 6), .int .i64 (c.mt 7), .int .i64 (c.mt 8), .int .i64 (c.mt 9)]] w (CoEnd w (tickA c)) := by
  obtain ⟨W0, hW0⟩ : ∃ z : World, w.alloc (.cells #[.int .i64 c.id, .int .i64 c.role, .int .i64 c.tm, .int .i64 c.vt, .int .i64 c.ld, .int .i64 c.wt, .int .i64 c.cm, .int .i64 c.sf, .int .i64 c.l.b, .int .i64 c.l.bt, .int .u16 c.l.j.ov, .int .u16 c.l.j.ox, .int .u16 c.l.j.ol, .int .i64 c.l.j.oe, .int .i64 c.l.j.ok, .int .u16 c.l.j.nv, .int .u16 c.l.j.nx, .int .u16 c.l.j.nl, .int .i64 c.l.j.ne, .int .i64 c.l.j.nk, .bool c.l.j.two, .slice p c.l.es.length k, .string c.sn, .int .u16 c.vs, .int .u16 c.hd, .int .i64 (c.nx 0), .int .i64 (c.nx 1), .int .i64 (c.nx 2), .int .i64 (c.nx 3), .int .i64 (c.nx 4), .int .i64 (c.nx 5), .int .i64 (c.nx 6), .int .i64 (c.nx 7), .int .i64 (c.nx 8), .int .i64 (c.nx 9), .int .i64 (c.mt 0), .int .i64 (c.mt 1), .int .i64 (c.mt 2), .int .i64 (c.mt 3), .int .i64 (c.mt 4), .int .i64 (c.mt 5), .int .i64 (c.mt 6), .int .i64 (c.mt 7), .int .i64 (c.mt 8), .int .i64 (c.mt 9)] 33) = z := ⟨_, rfl⟩
  obtain ⟨W, hW⟩ : ∃ z : World, W0.alloc (.cells #[.int .i64 0, .int .i64 0, .int .i64 0, .int .i64 0, .int .i64 0, .int .i64 0, .int .i64 0, .int .i64 0, .int .i64 0, .int .i64 0, .int .u16 0, .int .u16 0, .int .u16 0, .int .i64 0, .int .i64 0, .int .u16 0, .int .u16 0, .int .u16 0, .int .i64 0, .int .i64 0, .bool false, .slice none 0 0, .string ⟨#[]⟩, .int .u16 0, .int .u16 0, .int .i64 0, .int .i64 0, .int .i64 0, .int .i64 0, .int .i64 0, .int .i64 0, .int .i64 0, .int .i64 0, .int .i64 0, .int .i64 0, .int .i64 0, .int .i64 0, .int .i64 0, .int .i64 0, .int .i64 0, .int .i64 0, .int .i64 0, .int .i64 0, .int .i64 0, .int .i64 0] 33) = z := ⟨_, rfl⟩
  have hs0 : W0.heap.size = w.heap.size + 1 := by rw [← hW0]; simp
  have b0 : Below w.heap.size w W0 := by rw [← hW0]; exact (Below.refl _ _).alloc (Nat.le_refl _) _
  have b1 : Below W0.heap.size W0 W := by rw [← hW]; exact (Below.refl _ _).alloc (Nat.le_refl _) _
  have bW := b0.trans (b1.mono b0.size)
  have hX : W.heap[w.heap.size]? = some (.cells #[.int .i64 c.id, .int .i64 c.role, .int .i64 c.tm, .int .i64 c.vt, .int .i64 c.ld, .int .i64 c.wt, .int .i64 c.cm, .int .i64 c.sf, .int .i64 c.l.b, .int .i64 c.l.bt, .int .u16 c.l.j.ov, .int .u16 c.l.j.ox, .int .u16 c.l.j.ol, .int .i64 c.l.j.oe, .int .i64 c.l.j.ok, .int .u16 c.l.j.nv, .int .u16 c.l.j.nx, .int .u16 c.l.j.nl, .int .i64 c.l.j.ne, .int .i64 c.l.j.nk, .bool c.l.j.two, .slice p c.l.es.length k, .string c.sn, .int .u16 c.vs, .int .u16 c.hd, .int .i64 (c.nx 0), .int .i64 (c.nx 1), .int .i64 (c.nx 2), .int .i64 (c.nx 3), .int .i64 (c.nx 4), .int .i64 (c.nx 5), .int .i64 (c.nx 6), .int .i64 (c.nx 7), .int .i64 (c.nx 8), .int .i64 (c.nx 9), .int .i64 (c.mt 0), .int .i64 (c.mt 1), .int .i64 (c.mt 2), .int .i64 (c.mt 3), .int .i64 (c.mt 4), .int .i64 (c.mt 5), .int .i64 (c.mt 6), .int .i64 (c.mt 7), .int .i64 (c.mt 8), .int .i64 (c.mt 9)] 33 (0, 0)) := below_block b1 (by omega) (by rw [← hW0]; exact heap_last w _)
  have hZ : W.heap[w.heap.size + 1]? = some (.cells (coL co0 none 0).toArray 33 (0, 0)) := by rw [← hW, ← hs0]; exact heap_last W0 _
  obtain ⟨X, eX⟩ : ∃ z, w.heap.size = z := ⟨_, rfl⟩
  obtain ⟨Z, eZ⟩ : ∃ z, X + 1 = z := ⟨_, rfl⟩
  rw [eX] at hX hZ
  rw [eZ] at hZ
  have hWs : W.heap.size = Z + 1 := by rw [← hW]; simp only [World.size_alloc]; omega
  have HWG := Lib.hid (show (w.alloc (.cells #[.int .i64 c.id, .int .i64 c.role, .int .i64 c.tm, .int .i64 c.vt, .int .i64 c.ld, .int .i64 c.wt, .int .i64 c.cm, .int .i64 c.sf, .int .i64 c.l.b, .int .i64 c.l.bt, .int .u16 c.l.j.ov, .int .u16 c.l.j.ox, .int .u16 c.l.j.ol, .int .i64 c.l.j.oe, .int .i64 c.l.j.ok, .int .u16 c.l.j.nv, .int .u16 c.l.j.nx, .int .u16 c.l.j.nl, .int .i64 c.l.j.ne, .int .i64 c.l.j.nk, .bool c.l.j.two, .slice p c.l.es.length k, .string c.sn, .int .u16 c.vs, .int .u16 c.hd, .int .i64 (c.nx 0), .int .i64 (c.nx 1), .int .i64 (c.nx 2), .int .i64 (c.nx 3), .int .i64 (c.nx 4), .int .i64 (c.nx 5), .int .i64 (c.nx 6), .int .i64 (c.nx 7), .int .i64 (c.nx 8), .int .i64 (c.nx 9), .int .i64 (c.mt 0), .int .i64 (c.mt 1), .int .i64 (c.mt 2), .int .i64 (c.mt 3), .int .i64 (c.mt 4), .int .i64 (c.mt 5), .int .i64 (c.mt 6), .int .i64 (c.mt 7), .int .i64 (c.mt 8), .int .i64 (c.mt 9)] 33)).alloc (.cells #[.int .i64 0, .int .i64 0, .int .i64 0, .int .i64 0, .int .i64 0, .int .i64 0, .int .i64 0, .int .i64 0, .int .i64 0, .int .i64 0, .int .u16 0, .int .u16 0, .int .u16 0, .int .i64 0, .int .i64 0, .int .u16 0, .int .u16 0, .int .u16 0, .int .i64 0, .int .i64 0, .bool false, .slice none 0 0, .string ⟨#[]⟩, .int .u16 0, .int .u16 0, .int .i64 0, .int .i64 0, .int .i64 0, .int .i64 0, .int .i64 0, .int .i64 0, .int .i64 0, .int .i64 0, .int .i64 0, .int .i64 0, .int .i64 0, .int .i64 0, .int .i64 0, .int .i64 0, .int .i64 0, .int .i64 0, .int .i64 0, .int .i64 0, .int .i64 0, .int .i64 0] 33) = W by rw [hW0]; exact hW)
  have HX := Lib.hid hX; have HZ := Lib.hid hZ; have HBW := Lib.hid bW; have HEX := Lib.hid eX; have HEZ := Lib.hid eZ; have HF : Hid (CoFit N c) := hF; have HNN := Lib.hid hN; have HWS := Lib.hid hWs
  have HRX := Lib.hid (show W.rangeAt X 0 (coL c p k) from range_of (n := 45) rfl (fun j _ => by have hX' : W.heap[X]? = some (.cells (coL c p k).toArray 33 (0, 0)) := hX; rw [Nat.zero_add, block_cells hX', List.getElem?_toArray]))
  have HBG := Lib.hid (show Calls Tryz.prog 48 #[.agg (coL c p k).toArray] W fun e w' => ∃ R q d, e = .returned (.pointer (some ⟨R, 0, none⟩)) ∧ AcW 76 W.heap.size w' R ⟨c, q, d⟩ (.slice none 0 0) [] ∧ Below W.heap.size W w' from rbegin_act c p k W hF.lo.f (hE.keep bW (Nat.le_refl _)))
  have hwr : IntKind.i64.wrap (c.wt + 1) = c.wt + 1 := by rw [IntKind.wrap_i64]; omega
  obtain ⟨A, hA⟩ : ∃ A, tickA c = A := ⟨_, rfl⟩
  have HA := Lib.hid hA
  rw [hA]
  clear hF hE hW0 hW hs0 b0 b1 bW hX hZ eX eZ hN hWs hA
  go_enter Tryz.func20, Tryz.ntmps20
  go_upto_region 1 with fail
  rw [HWG.out, HEX.out]
  (try rw [HEZ.out])
  clear HWG
  go_wp2_with (with_reducible refine wpList_load_mid (op := ⟨some 7, _, _, _, _, _⟩) rfl _ _ rfl X 0 rfl (coL c p k) _ HRX.out Tryz.underlying33 rfl (by kernel_rfl) ?_)
  refine HBG.out.mono ?_; rintro r w1 ⟨R, q, d, rfl, hA, b1⟩
  have hRW := hA.le
  have hp1 := hA.put 5 (.int .i64 (c.wt + 1)) (by decide) ⟨{ c with wt := c.wt + 1 }, q, d⟩ rfl rfl rfl rfl
  have k5 : w1.cell? ⟨R, 5, none⟩ = some (.int .i64 c.wt) := block_cells hA.blk 5
  have f5 : w1.frozen? ⟨R, 5, none⟩ = false := block_free hA.blk 5
  obtain ⟨c1, hc1⟩ : ∃ c1 : Co, { c with wt := c.wt + 1 } = c1 := ⟨_, rfl⟩
  rw [hc1] at hp1
  have hRX : R ≠ X := by have := HWS.out; have := HEZ.out; omega
  have hRZ : R ≠ Z := by have := HWS.out; omega
  have HA1 := Lib.hid hp1.1; have HR1 := Lib.hid ((AcR.below (R := R) (v := .slice none 0 0) b1).trans hp1.2)
  have HC1 := Lib.hid hc1
  have HF1 : Hid (CoFit N c1) := by show CoFit N c1; rw [← hc1]; exact HF.out.wait _
  clear hA b1 hp1 hc1 HBG HRX
  go_upto_region 3 with fail
  obtain ⟨W1, hW1⟩ : ∃ z : World, w1.setCell ⟨R, 5, none⟩ (.int .i64 (c.wt + 1)) = z := ⟨_, rfl⟩
  rw [hW1] at HA1 HR1 ⊢
  clear hW1 k5 f5 hwr
  have HX1 := Lib.hid (HR1.out.blk HX.out (fun e => hRX e.symm) (fun e => by cases e)).1
  have kX1 : W1.cell? ⟨X, 1, none⟩ = some (.int .i64 c.role) := block_cells HX1.out 1
  have k5 : W1.cell? ⟨R, 5, none⟩ = some (.int .i64 c1.wt) := block_cells HA1.out.blk 5
  by_cases hr : c.role = 2
  · have e1 : (c.role == 2) = true := by simp [hr]
    have HRO := Lib.hid hr
    clear hr
    obtain ⟨x, hx⟩ : ∃ x, c1.wt = x := ⟨_, rfl⟩
    have hxe : c.wt + 1 = x := by rw [← hx, ← HC1.out]
    rw [hx] at k5
    have hxb : 0 ≤ x ∧ x ≤ 2199023255553 := by omega
    have HXE := Lib.hid hxe
    clear hx hxe
    go_upto_if 27 with fail
    obtain ⟨o1, ho1⟩ : ∃ o1 : List Ms, (if x % 2 = 0 then allM c1 else []) = o1 := ⟨_, rfl⟩
    have HO1 := Lib.hid ho1
    clear ho1
    go_cut [] from 27 to 29 (fun wx => Hid (∃ v l, l.map MsX.m = o1 ∧ AcW 76 W.heap.size wx R ⟨c1, q, d⟩ v l ∧ AcR W wx R (.slice none 0 0) v))
    case first =>
      by_cases hm : x % 2 = 0
      · have hmb : (x % 2 == 0) = true := by simp [hm]
        have HAL := Lib.hid (rall_act W.heap.size R c1 q d (.slice none 0 0) [] W1 HA1.out HF1.out.lo.f ⟨HF1.out.id0, HF1.out.id1⟩ HF1.out.lo.conf.m HF1.out.lo.conf.f HF1.out.nx (by decide))
        have HOA : Hid (allM c1 = o1) := by show _ = _; rw [← HO1.out, if_pos hm]
        clear hm
        go_wp2_with fail
        refine HAL.out.mono ?_; rintro r w2 ⟨rfl, v2, l2, hl2, hA2, hr2⟩
        have HO : Hid (∃ v l, l.map MsX.m = o1 ∧ AcW 76 W.heap.size w2 R ⟨c1, q, d⟩ v l ∧ AcR W w2 R (.slice none 0 0) v) := ⟨v2, l2, by rw [hl2, HOA.out]; rfl, hA2, HR1.out.trans hr2⟩
        clear hl2 hA2 hr2 HAL
        go_wp2_with fail
        go_meet
        case rel => exact HO
      · have hmb : (x % 2 == 0) = false := by simp [hm]
        have HO : Hid (∃ v l, l.map MsX.m = o1 ∧ AcW 76 W.heap.size W1 R ⟨c1, q, d⟩ v l ∧ AcR W W1 R (.slice none 0 0) v) := ⟨.slice none 0 0, [], by rw [← HO1.out, if_neg hm]; rfl, HA1.out, HR1.out⟩
        clear hm
        go_wp2_with fail
        go_meet
        case rel => exact HO
    case rest =>
      obtain ⟨W2, hW2⟩ : ∃ z : World, z = wc := ⟨_, rfl⟩
      rw [← hW2] at hcut ⊢
      obtain ⟨v2, l2, hl2, hA2, hr2⟩ := hcut.out
      have HL2 := Lib.hid hl2; have HA2 := Lib.hid hA2; have HR2 := Lib.hid hr2
      have k5 : W2.cell? ⟨R, 5, none⟩ = some (.int .i64 x) := by have := block_cells hA2.blk 5; rw [← HXE.out, show c.wt + 1 = c1.wt from by rw [← HC1.out]]; exact this
      have hTA : A = onLook ⟨c1, o1⟩ := by
        rw [← HA.out, ← HO1.out, ← HC1.out, ← HXE.out]
        unfold tickA
        rw [if_pos HRO.out]
        by_cases hm : (c.wt + 1) % 2 = 0
        · rw [if_pos hm, if_pos (show (c.wt + 1).emod 2 = 0 from hm)]
          rw [allA_eq]; rfl
        · rw [if_neg hm, if_neg (show ¬ (c.wt + 1).emod 2 = 0 from hm)]
      have HTA := Lib.hid hTA
      clear hW2 hcut hl2 hA2 hr2 hTA
      go_upto_if 35 with fail
      go_cut [] from 35 to 59 (fun wx => Hid (∃ q d v l, l.map MsX.m = A.out ∧ AcW 76 W.heap.size wx R ⟨A.c, q, d⟩ v l ∧ AcR W wx R (.slice none 0 0) v))
      case first =>
        by_cases h10 : x = 10
        · have h10b : (x == 10) = true := by simp [h10]
          obtain ⟨J, hJ⟩ : ∃ J, confL c1.l = J := ⟨_, rfl⟩
          have hJO : JnO J := by rw [← hJ]; exact HF1.out.lo.conf
          obtain ⟨g, hg⟩ : ∃ g, withS c1.hd c1.id = g := ⟨_, rfl⟩
          have hgf : 0 ≤ g ∧ g ≤ 65535 := by rw [← hg]; exact bits_fit _ _ _
          obtain ⟨G, hG⟩ : ∃ G, commitsN J g = G := ⟨_, rfl⟩
          have hTA : A = ⟨if G = true then { c1 with hd := 0, wt := 0 } else yieldsC c1, o1⟩ := by
            rw [HTA.out]; unfold onLook
            rw [if_pos (show c1.wt = 10 by rw [← HC1.out]; exact HXE.out.trans h10)]
            unfold looksC
            rw [hJ]
            show (⟨if commitsN J (withS c1.hd c1.id) = true then _ else _, _⟩ : Ac) = _
            rw [hg, hG]
          have HTA2 := Lib.hid hTA; have HG := Lib.hid hG; have HJ := Lib.hid hJ; have HJO : Hid (JnO J) := hJO; have HGG := Lib.hid hg; have HGF := Lib.hid hgf
          clear h10 hJ hJO hg hG hTA hgf k5
          go_upto_region 7 with fail
          have h0 : Below W2.heap.size W2 W2.drew := (Below.refl _ _).drew
          refine wp_region_held_drew (S := fun w' => Below W2.heap.size W2 w') (by kernel_rfl) h0 (fun hHeld => ?_)
          obtain ⟨wd, ewd⟩ : ∃ x, W2.drew = x := ⟨_, rfl⟩
          rewrite [ewd] at h0 hHeld ⊢
          have k24 : ∀ w', Below W2.heap.size W2 w' → w'.cell? ⟨R, 24, none⟩ = some (.int .u16 c1.hd) := fun w' h => block_cells (below_block h HA2.out.lt HA2.out.blk) 24
          have k0 : ∀ w', Below W2.heap.size W2 w' → w'.cell? ⟨R, 0, none⟩ = some (.int .i64 c1.id) := fun w' h => block_cells (below_block h HA2.out.lt HA2.out.blk) 0
          clear ewd
          refine tkL 0 rfl hHeld ?_
          try simp only [zA, zC, Act.put, zD, zE, zF]
          refine tkL 2 rfl hHeld ?_
          try simp only [zA, zB, zC, Act.put, zD, zE, zF]
          refine tkL 3 rfl hHeld ?_
          try simp only [zA, zB, zC, Act.put, zD, zE, zF]
          refine tkL 4 rfl hHeld ?_
          try simp only [zA, zB, zC, Act.put, zD, zE, zF]
          refine tkL 5 rfl hHeld ?_
          try simp only [zA, zB, zC, Act.put, zD, zE, zF]
          refine tkL 6 rfl hHeld ?_
          try simp only [zA, zB, zC, Act.put, zD, zE, zF]
          refine tkL 7 rfl hHeld ?_
          try simp only [zA, zB, zC, Act.put, zD, zE, zF]
          refine tkL 8 rfl hHeld ?_
          try simp only [zA, zB, zC, Act.put, zD, zE, zF]
          refine tkL 9 rfl hHeld ?_
          try simp only [zA, zB, zC, Act.put, zD, zE, zF]
          refine tkL 10 rfl hHeld ?_
          try simp only [zA, zB, zC, Act.put, zD, zE, zF]
          refine tkL 11 rfl hHeld ?_
          try simp only [zA, zB, zC, Act.put, zD, zE, zF]
          refine wpAnyH_ready (rs := [1]) (by kernel_rfl) (by simp) ?_; refine AllReadyH.cons rfl (fun K hK => ?_) AllReadyH.nil; (try simp only [zA, zB, zC]); go_simp
          refine (show Calls Tryz.prog 54 #[.pointer (some ⟨R, 0, none⟩)] wd fun e w' => e = .returned (.agg #[.int .u16 J.ov, .int .u16 J.ox, .int .u16 J.ol, .int .i64 J.oe, .int .i64 J.ok, .int .u16 J.nv, .int .u16 J.nx, .int .u16 J.nl, .int .i64 J.ne, .int .i64 J.nk, .bool J.two]) ∧ Below wd.heap.size wd w' from by have := rjoint_act R c1 q d v2 wd (below_block h0 HA2.out.lt HA2.out.blk) HF1.out.lo.f ((EnSl.of_own HA2.out.en).keep h0 (Nat.le_refl _)); rw [HJ.out] at this; exact this).mono ?_; rintro r0 w3 ⟨rfl, bs3⟩
          have s3 := h0.trans (bs3.mono h0.size)
          refine hK.out _ _ s3 (fun _ => ?_)
          clear hK K hHeld bs3 
          try simp only [zA, zB, zC, Act.put, zD, zE, zF]
          have hHeld := s3
          refine wpAnyH_ready (rs := [12]) (by kernel_rfl) (by simp) ?_; refine AllReadyH.cons rfl (fun K hK => ?_) AllReadyH.nil; (try simp only [zA, zB, zC]); go_simp
          refine (show Calls Tryz.prog 52 #[.int .u16 c1.hd, .int .i64 c1.id] w3 fun e w' => e = .returned (.int .u16 g) ∧ w3 = w' from by have := refWith_any c1.hd c1.id w3 (by rw [← HC1.out]; exact hhd.1) (by rw [← HC1.out]; exact hhd.2); rw [show bits .or .u16 c1.hd (oneB c1.id) = g from HGG.out] at this; exact this).mono ?_; rintro r0 w4 ⟨rfl, rfl⟩
          refine hK.out _ _ s3 (fun _ => ?_)
          clear hK K hHeld
          try simp only [zA, zB, zC, Act.put, zD, zE, zF]
          have hHeld := s3
          refine wpAnyH_ready (rs := [13]) (by kernel_rfl) (by simp) ?_; refine AllReadyH.cons rfl (fun K hK => ?_) AllReadyH.nil; (try simp only [zA, zB, zC]); go_simp
          refine (show Calls Tryz.prog 71 #[.agg #[.int .u16 J.ov, .int .u16 J.ox, .int .u16 J.ol, .int .i64 J.oe, .int .i64 J.ok, .int .u16 J.nv, .int .u16 J.nx, .int .u16 J.nl, .int .i64 J.ne, .int .i64 J.nk, .bool J.two], .int .u16 g] w3 fun e w' => e = .returned (.bool G) ∧ Below w3.heap.size w3 w' from by have := rjCommits J g HJO.out HGF.out.1 HGF.out.2 w3; rw [HG.out] at this; exact this).mono ?_; rintro r0 w4 ⟨rfl, bs4⟩
          have s4 := s3.trans (bs4.mono s3.size)
          refine hK.out _ _ s4 (fun _ => ?_)
          clear hK K hHeld bs4 
          try simp only [zA, zB, zC, Act.put, zD, zE, zF]
          have hHeld := s4
          refine wpAnyH_done (by kernel_rfl) ?_ _
          have HA4 := Lib.hid (HA2.out.keep s4); have HR4 := Lib.hid (HR2.out.trans (AcR.below s4))
          clear hHeld s4 s3 h0 k24 k0
          cases G with
          | true =>
            have HZ1 : Hid (A = ⟨{ c1 with hd := 0, wt := 0 }, o1⟩) := by show _ = _; rw [HTA2.out]; rfl
            have hp1 := HA4.out.put 24 (.int .u16 0) (by decide) ⟨{ c1 with hd := 0 }, q, d⟩ rfl rfl rfl rfl
            have hp2 := hp1.1.put 5 (.int .i64 0) (by decide) ⟨{ c1 with hd := 0, wt := 0 }, q, d⟩ rfl rfl rfl rfl
            have HO : Hid (∃ q d v l, l.map MsX.m = A.out ∧ AcW 76 W.heap.size ((w4.setCell ⟨R, 24, none⟩ (.int .u16 0)).setCell ⟨R, 5, none⟩ (.int .i64 0)) R ⟨A.c, q, d⟩ v l ∧ AcR W ((w4.setCell ⟨R, 24, none⟩ (.int .u16 0)).setCell ⟨R, 5, none⟩ (.int .i64 0)) R (.slice none 0 0) v) := ⟨q, d, v2, l2, by rw [HZ1.out]; exact HL2.out, by rw [HZ1.out]; exact hp2.1, (HR4.out.trans hp1.2).trans hp2.2⟩
            have k24 : w4.cell? ⟨R, 24, none⟩ = some (.int .u16 c1.hd) := block_cells HA4.out.blk 24
            have f24 : w4.frozen? ⟨R, 24, none⟩ = false := block_free HA4.out.blk 24
            have k5 : (w4.setCell ⟨R, 24, none⟩ (.int .u16 0)).cell? ⟨R, 5, none⟩ = some (.int .i64 c1.wt) := block_cells hp1.1.blk 5
            have f5 : (w4.setCell ⟨R, 24, none⟩ (.int .u16 0)).frozen? ⟨R, 5, none⟩ = false := block_free hp1.1.blk 5
            clear hp1 hp2
            go_wp2_with fail
            go_meet
            case rel => exact HO
          | false =>
            have HZ1 : Hid (A = ⟨yieldsC c1, o1⟩) := by show _ = _; rw [HTA2.out]; rfl
            have HYI := Lib.hid (ryields_act W.heap.size R c1 q d v2 l2 w4 HA4.out)
            go_wp2_with fail
            refine HYI.out.mono ?_; rintro r w5 ⟨rfl, hA5, hr5⟩
            have HO : Hid (∃ q d v l, l.map MsX.m = A.out ∧ AcW 76 W.heap.size w5 R ⟨A.c, q, d⟩ v l ∧ AcR W w5 R (.slice none 0 0) v) := ⟨q, d, v2, l2, by rw [HZ1.out]; exact HL2.out, by rw [HZ1.out]; exact hA5, HR4.out.trans hr5⟩
            clear hA5 hr5 HYI
            go_wp2_with fail
            go_meet
            case rel => exact HO
        · have h10b : (x == 10) = false := by simp [h10]
          have HZ1 : Hid (A = ⟨c1, o1⟩) := by
            show _ = _
            rw [HTA.out]; unfold onLook
            rw [if_neg (show ¬ c1.wt = 10 by rw [← HC1.out]; exact fun h => h10 (HXE.out.symm.trans h))]
          have HO : Hid (∃ q d v l, l.map MsX.m = A.out ∧ AcW 76 W.heap.size W2 R ⟨A.c, q, d⟩ v l ∧ AcR W W2 R (.slice none 0 0) v) := ⟨q, d, v2, l2, by rw [HZ1.out]; exact HL2.out, by rw [HZ1.out]; exact HA2.out, HR2.out⟩
          clear h10
          go_wp2_with fail
          go_meet
          case rel => exact HO
      case rest =>
        obtain ⟨W9, hW9⟩ : ∃ z : World, z = wc := ⟨_, rfl⟩
        rw [← hW9] at hcut ⊢
        obtain ⟨q9, d9, v9, l9, hl9, hA9, hr9⟩ := hcut.out
        clear hW9 hcut HA2 HR2
        obtain ⟨c9, hc9⟩ : ∃ c9, A.c = c9 := ⟨_, rfl⟩
        rw [hc9] at hA9
        have HL9 := Lib.hid hl9; have HA9 := Lib.hid hA9; have HC9 := Lib.hid hc9
        have hz9 := hr9.blk HZ.out (fun e => hRZ e.symm) (fun e => by cases e)
        have HZ9 := Lib.hid hz9.1; have HV9 := Lib.hid hz9.2
        have HB9 := Lib.hid (show Below w.heap.size w W9 from HBW.out.trans ((hr9.base hRW (fun b e => by cases e) (Nat.le_refl _)).mono HBW.out.size))
        clear hl9 hA9 hr9 hc9 hz9
        go_upto_region 10 with fail
        have hAe := HA9.out.keep (Below.refl _ _).drew
        have hZe : W9.drew.heap[Z]? = some (.cells (coL co0 none 0).toArray 33 (0, 0)) := HZ9.out
        have hte := there_of_block (o := 0) (n := 45) hZe (Nat.le_of_ble_eq_true rfl)
        have hSe : RAll R ((coL c9 q9 d9) ++ [v9]).toArray W9.drew := RAll.of (w := W9.drew) hAe.blk
        refine wp_region_held_drew (S := RAll R ((coL c9 q9 d9) ++ [v9]).toArray) (by kernel_rfl) hSe (fun hHeld => ?_)
        have HBe := Lib.hid (HB9.out.drew)
        obtain ⟨we, ewe⟩ : ∃ x, W9.drew = x := ⟨_, rfl⟩
        rewrite [ewe] at hHeld hAe hZe hte hSe HBe ⊢
        have HAe := Lib.hid hAe; have HZe := Lib.hid hZe; have HTe := Lib.hid hte
        have k45 : ∀ w', RAll R ((coL c9 q9 d9) ++ [v9]).toArray w' → w'.cell? ⟨R, 45, none⟩ = some v9 := fun w' h => h.r 45
        have s2e : RAll R ((coL c9 q9 d9) ++ [v9]).toArray (we.setCells Z 0 (coL c9 q9 d9)) := ⟨fun j => by
          have hg := (block_setCells (coL c9 q9 d9) 0 HZe.out).2
          exact block_cells ((hg.block R HAe.out.lt (fun e => hRZ (by simpa using e))).trans HAe.out.blk) j⟩
        clear ewe hAe hZe hte hSe
        refine tkL 0 rfl hHeld ?_
        try simp only [zA, zC, Act.put, zD, zE, zF]
        refine tkL 1 rfl hHeld ?_
        try simp only [zA, zB, zC, Act.put, zD, zE, zF]
        refine tkL 2 rfl hHeld ?_
        try simp only [zA, zB, zC, Act.put, zD, zE, zF]
        refine tkH (i := 3) (v := .agg (coL c9 q9 d9).toArray) rfl (yieldsIf_load_mid (by rfl) _ _ rfl R 0 rfl (coL c9 q9 d9) _ (fun w' h => act_range h) Tryz.underlying33 rfl (by kernel_rfl)) hHeld ?_
        try simp only [zA, zB, zC, Act.put, zD, zE, zF]
        refine tkL 4 rfl hHeld ?_
        try simp only [zA, zB, zC, Act.put, zD, zE, zF]
        refine tkL 5 rfl hHeld ?_
        try simp only [zA, zB, zC, Act.put, zD, zE, zF]
        refine tkL 6 rfl hHeld ?_
        try simp only [zA, zB, zC, Act.put, zD, zE, zF]
        refine tkL 7 rfl hHeld ?_
        try simp only [zA, zB, zC, Act.put, zD, zE, zF]
        refine wpAnyH_ready (rs := [8]) (by kernel_rfl) (by simp) ?_; refine AllReadyH.cons rfl (fun K hK => ?_) AllReadyH.nil
        rw [if_pos (by rfl)]
        refine wp_store_mid _ _ _ (by rfl) Z 0 (coL c9 q9 d9).toArray (by rfl) (by rfl) HTe.out (by kernel_rfl) (one_all rfl) ?_
        refine hK.out _ _ s2e (fun _ => ?_)
        clear hK K hHeld k45
        try simp only [zA, zB, zC, Act.put]
        have hHeld := s2e
        refine tkL 9 rfl hHeld ?_
        try simp only [zA, zB, zC, Act.put, zD, zE, zF]
        refine wpAnyH_done (by kernel_rfl) ?_ _
        clear hHeld s2e
        go_wp2_with fail
        have hZf : (we.setCells Z 0 (coL c9 q9 d9)).heap[Z]? = some (.cells (coL c9 q9 d9).toArray 33 (0, 0)) := setCells_full (n := 45) (vs := (coL c9 q9 d9).toArray) HZe.out rfl rfl
        refine bodyPost_ret (v := .tuple #[.agg (coL c9 q9 d9).toArray, v9]) ?_ rfl ?_
        · rw [results_cell_tmp rfl]
          simp [asAddr, run_loadVar_row _ Z _ _ _ _ _ hZf Tryz.underlying33 rfl (by kernel_rfl), Result.andThen]
        · exact co_end HAe.out HZe.out hRZ HV9.out (by have := HWS.out; have := HEZ.out; have := HEX.out; omega) HBe.out (by have := HEZ.out; have := HEX.out; omega) HC9.out.symm HL9.out
  · have e1 : (c.role == 2) = false := by simp [hr]
    obtain ⟨J, hJ⟩ : ∃ J, confL c1.l = J := ⟨_, rfl⟩
    have hl1 : c1.l = c.l := by rw [← HC1.out]
    have hi1 : c1.id = c.id := by rw [← HC1.out]
    have ht1 : c1.tm = c.tm := by rw [← HC1.out]
    have hw1 : c1.wt = c.wt + 1 := by rw [← HC1.out]
    obtain ⟨G, hG⟩ : ∃ G, leadsN J c1.id = G := ⟨_, rfl⟩
    have hTA : A = if G = true ∧ patience c1.id ≤ c1.wt ∧ c1.tm < 1099511627776 then standsA ⟨c1, []⟩ else ⟨c1, []⟩ := by
      rw [← HA.out, ← hG, ← hJ, hl1, hi1, ht1, hw1, ← HC1.out]
      unfold tickA
      rw [if_neg hr]
    have hxi : ∀ w', Below W1.heap.size W1 w' → w'.cell? ⟨X, 0, none⟩ = some (.int .i64 c1.id) := fun w' h => by rw [hi1]; exact block_cells (below_block h (block_lt HX1.out) HX1.out) 0
    have hxt : ∀ w', Below W1.heap.size W1 w' → w'.cell? ⟨X, 2, none⟩ = some (.int .i64 c1.tm) := fun w' h => by rw [ht1]; exact block_cells (below_block h (block_lt HX1.out) HX1.out) 2
    have HXI := Lib.hid hxi; have HXT := Lib.hid hxt
    have HTA := Lib.hid hTA; have HG := Lib.hid hG; have HJ := Lib.hid hJ
    have HJO : Hid (JnO J) := by show JnO J; rw [← hJ]; exact HF1.out.lo.conf
    have hid0 := HF1.out.id0; have hid1 := HF1.out.id1
    have HCI := Lib.hid hi1
    clear hJ hl1 hG hTA hr hi1 ht1 hw1 k5 hxi hxt
    go_upto_region 11 with fail
    clear kX1
    go_cut [89] from 68 to 89 (fun b wx => ∃ z : Bool, b = .bool z ∧ Hid ((z = true → A = ⟨c1, []⟩) ∧ (z = false → A = standsA ⟨c1, []⟩) ∧ Below W1.heap.size W1 wx))
    case first =>
      go_upto_region 11 with fail
      have h0 : Below W1.heap.size W1 W1.drew := (Below.refl _ _).drew
      refine wp_region_held_drew (S := fun w' => Below W1.heap.size W1 w') (by kernel_rfl) h0 (fun hHeld => ?_)
      obtain ⟨wd, ewd⟩ : ∃ x, W1.drew = x := ⟨_, rfl⟩
      rewrite [ewd] at h0 hHeld ⊢
      have hxi := HXI.out
      have hxt := HXT.out
      have k5 : ∀ w', Below W1.heap.size W1 w' → w'.cell? ⟨R, 5, none⟩ = some (.int .i64 c1.wt) := fun w' h => block_cells (below_block h HA1.out.lt HA1.out.blk) 5
      clear ewd
      refine tkL 0 rfl hHeld ?_
      try simp only [zA, zC, Act.put, zD, zE, zF]
      refine tkL 2 rfl hHeld ?_
      try simp only [zA, zB, zC, Act.put, zD, zE, zF]
      refine tkL 3 rfl hHeld ?_
      try simp only [zA, zB, zC, Act.put, zD, zE, zF]
      refine wpAnyH_ready (rs := [1]) (by kernel_rfl) (by simp) ?_; refine AllReadyH.cons rfl (fun K hK => ?_) AllReadyH.nil; (try simp only [zA, zB, zC]); go_simp
      refine (show Calls Tryz.prog 54 #[.pointer (some ⟨R, 0, none⟩)] wd fun e w' => e = .returned (.agg #[.int .u16 J.ov, .int .u16 J.ox, .int .u16 J.ol, .int .i64 J.oe, .int .i64 J.ok, .int .u16 J.nv, .int .u16 J.nx, .int .u16 J.nl, .int .i64 J.ne, .int .i64 J.nk, .bool J.two]) ∧ Below wd.heap.size wd w' from by have := rjoint_act R c1 q d (.slice none 0 0) wd (below_block h0 HA1.out.lt HA1.out.blk) HF1.out.lo.f ((EnSl.of_own HA1.out.en).keep h0 (Nat.le_refl _)); rw [HJ.out] at this; exact this).mono ?_; rintro r0 w2 ⟨rfl, bs2⟩
      have s2 := h0.trans (bs2.mono h0.size)
      refine hK.out _ _ s2 (fun _ => ?_)
      clear hK K hHeld bs2 
      try simp only [zA, zB, zC, Act.put, zD, zE, zF]
      have hHeld := s2
      refine wpAnyH_ready (rs := [4]) (by kernel_rfl) (by simp) ?_; refine AllReadyH.cons rfl (fun K hK => ?_) AllReadyH.nil; (try simp only [zA, zB, zC]); go_simp
      refine (show Calls Tryz.prog 73 #[.agg #[.int .u16 J.ov, .int .u16 J.ox, .int .u16 J.ol, .int .i64 J.oe, .int .i64 J.ok, .int .u16 J.nv, .int .u16 J.nx, .int .u16 J.nl, .int .i64 J.ne, .int .i64 J.nk, .bool J.two], .int .i64 c1.id] w2 fun e w' => e = .returned (.bool G) ∧ Below w2.heap.size w2 w' from by have := rjLeads J c1.id HJO.out w2; rw [HG.out] at this; exact this).mono ?_; rintro r0 w3 ⟨rfl, bs3⟩
      have s3 := s2.trans (bs3.mono s2.size)
      refine hK.out _ _ s3 (fun _ => ?_)
      clear hK K hHeld bs3 
      try simp only [zA, zB, zC, Act.put, zD, zE, zF]
      have hHeld := s3
      cases G with
      | false =>
        have HZ1 : Hid (A = ⟨c1, []⟩) := by show _ = _; rw [HTA.out]; exact if_neg (fun h => absurd h.1 (by decide))
        refine tkL 5 rfl hHeld ?_
        try simp only [zA, zB, zC, Act.put, zD, zE, zF]
        refine tkL 6 rfl hHeld ?_
        try simp only [zA, zB, zC, Act.put, zD, zE, zF]
        refine tkH (i := 7) (v := undef) rfl (Or.inr ⟨by rfl, rfl⟩) hHeld ?_
        try simp only [zA, zB, zC, Act.put, zD, zE, zF]
        refine tkH (i := 8) (v := undef) rfl (Or.inr ⟨by rfl, rfl⟩) hHeld ?_
        try simp only [zA, zB, zC, Act.put, zD, zE, zF]
        refine tkH (i := 9) (v := undef) rfl (Or.inr ⟨by rfl, rfl⟩) hHeld ?_
        try simp only [zA, zB, zC, Act.put, zD, zE, zF]
        refine tkH (i := 10) (v := undef) rfl (Or.inr ⟨by rfl, rfl⟩) hHeld ?_
        try simp only [zA, zB, zC, Act.put, zD, zE, zF]
        refine tkH (i := 11) (v := undef) rfl (Or.inr ⟨by rfl, rfl⟩) hHeld ?_
        try simp only [zA, zB, zC, Act.put, zD, zE, zF]
        refine tkH (i := 12) (v := undef) rfl (Or.inr ⟨by rfl, rfl⟩) hHeld ?_
        try simp only [zA, zB, zC, Act.put, zD, zE, zF]
        refine tkH (i := 13) (v := undef) rfl (Or.inr ⟨by rfl, rfl⟩) hHeld ?_
        try simp only [zA, zB, zC, Act.put, zD, zE, zF]
        refine tkH (i := 14) (v := undef) rfl (Or.inr ⟨by rfl, rfl⟩) hHeld ?_
        try simp only [zA, zB, zC, Act.put, zD, zE, zF]
        refine tkH (i := 15) (v := undef) rfl (Or.inr ⟨by rfl, rfl⟩) hHeld ?_
        try simp only [zA, zB, zC, Act.put, zD, zE, zF]
        refine tkL 16 rfl hHeld ?_
        try simp only [zA, zB, zC, Act.put, zD, zE, zF]
        refine tkL 17 rfl hHeld ?_
        try simp only [zA, zB, zC, Act.put, zD, zE, zF]
        refine tkH (i := 18) (v := undef) rfl (Or.inr ⟨by rfl, rfl⟩) hHeld ?_
        try simp only [zA, zB, zC, Act.put, zD, zE, zF]
        refine tkH (i := 19) (v := undef) rfl (Or.inr ⟨by rfl, rfl⟩) hHeld ?_
        try simp only [zA, zB, zC, Act.put, zD, zE, zF]
        refine tkH (i := 20) (v := undef) rfl (Or.inr ⟨by rfl, rfl⟩) hHeld ?_
        try simp only [zA, zB, zC, Act.put, zD, zE, zF]
        refine tkL 21 rfl hHeld ?_
        try simp only [zA, zB, zC, Act.put, zD, zE, zF]
        refine wpAnyH_done (by kernel_rfl) ?_ _
        have HO := Lib.hid s3
        clear hHeld k5 s2 s3 h0 hxi hxt
        go_wp2_with fail
        go_meet
        case rel => exact ⟨true, rfl, fun _ => HZ1.out, fun h => (by cases h), HO.out⟩
      | true =>
        obtain ⟨P, hP⟩ : ∃ P, patience c1.id = P := ⟨_, rfl⟩
        have HP := Lib.hid hP
        clear hP
        refine tkL 5 rfl hHeld ?_
        try simp only [zA, zB, zC, Act.put, zD, zE, zF]
        refine tkL 6 rfl hHeld ?_
        try simp only [zA, zB, zC, Act.put, zD, zE, zF]
        refine tkL 7 rfl hHeld ?_
        try simp only [zA, zB, zC, Act.put, zD, zE, zF]
        refine tkL 8 rfl hHeld ?_
        try simp only [zA, zB, zC, Act.put, zD, zE, zF]
        refine tkL 9 rfl hHeld ?_
        try simp only [zA, zB, zC, Act.put, zD, zE, zF]
        refine tkL 10 rfl hHeld ?_
        try simp only [zA, zB, zC, Act.put, zD, zE, zF]
        refine tkL 11 rfl hHeld ?_
        try simp only [zA, zB, zC, Act.put, zD, zE, zF]
        refine tkL 12 rfl hHeld ?_
        try simp only [zA, zB, zC, Act.put, zD, zE, zF]
        refine tkL 13 rfl hHeld ?_
        try simp only [zA, zB, zC, Act.put, zD, zE, zF]
        refine wpAnyH_ready (rs := [14]) (by kernel_rfl) (by simp) ?_; refine AllReadyH.cons rfl (fun K hK => ?_) AllReadyH.nil; (try simp only [zA, zB, zC]); go_simp
        refine (show Calls Tryz.prog 24 #[.int .i64 c1.id] w3 fun e w' => e = .returned (.int .i64 P) ∧ w3 = w' from by have := rpatience_any c1.id w3 (by omega) (by omega); rw [HP.out] at this; exact this).mono ?_; rintro r0 w4 ⟨rfl, rfl⟩
        refine hK.out _ _ s3 (fun _ => ?_)
        clear hK K hHeld
        try simp only [zA, zB, zC, Act.put, zD, zE, zF]
        have hHeld := s3
        by_cases h2 : c1.wt < P
        · have h2b : decide (c1.wt < P) = true := by simp [h2]
          have HZ1 : Hid (A = ⟨c1, []⟩) := by show _ = _; rw [HTA.out]; exact if_neg (fun h => by have h8 := h.2.1; rw [HP.out] at h8; omega)
          refine tkL 15 rfl hHeld ?_
          try simp only [zA, zB, zC, Act.put, zD, zE, zF]
          refine tkL 16 rfl hHeld ?_
          try simp only [zA, zB, zC, Act.put, zD, zE, zF]
          refine tkL 17 rfl hHeld ?_
          try simp only [zA, zB, zC, Act.put, zD, zE, zF]
          refine tkH (i := 18) (v := undef) rfl (Or.inr ⟨by rfl, rfl⟩) hHeld ?_
          try simp only [zA, zB, zC, Act.put, zD, zE, zF]
          refine tkH (i := 19) (v := undef) rfl (Or.inr ⟨by rfl, rfl⟩) hHeld ?_
          try simp only [zA, zB, zC, Act.put, zD, zE, zF]
          refine tkH (i := 20) (v := undef) rfl (Or.inr ⟨by rfl, rfl⟩) hHeld ?_
          try simp only [zA, zB, zC, Act.put, zD, zE, zF]
          refine tkL 21 rfl hHeld ?_
          try simp only [zA, zB, zC, Act.put, zD, zE, zF]
          refine wpAnyH_done (by kernel_rfl) ?_ _
          have HO := Lib.hid s3
          clear hHeld k5 s2 s3 h0 hxi hxt
          go_wp2_with fail
          go_meet
          case rel => exact ⟨true, rfl, fun _ => HZ1.out, fun h => (by cases h), HO.out⟩
        · have h2b : decide (c1.wt < P) = false := by simp; omega
          refine tkL 15 rfl hHeld ?_
          try simp only [zA, zB, zC, Act.put, zD, zE, zF]
          refine tkL 16 rfl hHeld ?_
          try simp only [zA, zB, zC, Act.put, zD, zE, zF]
          refine tkL 17 rfl hHeld ?_
          try simp only [zA, zB, zC, Act.put, zD, zE, zF]
          refine tkL 18 rfl hHeld ?_
          try simp only [zA, zB, zC, Act.put, zD, zE, zF]
          refine tkL 19 rfl hHeld ?_
          try simp only [zA, zB, zC, Act.put, zD, zE, zF]
          refine tkL 20 rfl hHeld ?_
          try simp only [zA, zB, zC, Act.put, zD, zE, zF]
          by_cases h3 : 1099511627776 ≤ c1.tm
          · have h3b : decide (1099511627776 ≤ c1.tm) = true := by simp [h3]
            have HZ1 : Hid (A = ⟨c1, []⟩) := by show _ = _; rw [HTA.out]; exact if_neg (fun h => by have h8 := h.2.2; omega)
            refine tkL 21 rfl hHeld ?_
            try simp only [zA, zB, zC, Act.put, zD, zE, zF]
            refine wpAnyH_done (by kernel_rfl) ?_ _
            have HO := Lib.hid s3
            clear hHeld k5 s2 s3 h0 hxi hxt
            go_wp2_with fail
            go_meet
            case rel => exact ⟨true, rfl, fun _ => HZ1.out, fun h => (by cases h), HO.out⟩
          · have h3b : decide (1099511627776 ≤ c1.tm) = false := by simp; omega
            have HZ1 : Hid (A = standsA ⟨c1, []⟩) := by show _ = _; rw [HTA.out]; exact if_pos ⟨rfl, by rw [HP.out]; omega, by omega⟩
            refine tkL 21 rfl hHeld ?_
            try simp only [zA, zB, zC, Act.put, zD, zE, zF]
            refine wpAnyH_done (by kernel_rfl) ?_ _
            have HO := Lib.hid s3
            clear hHeld k5 s2 s3 h0 hxi hxt
            go_wp2_with fail
            go_meet
            case rel => exact ⟨false, rfl, fun h => (by cases h), fun _ => HZ1.out, HO.out⟩
    case rest =>
      obtain ⟨W2, hW2⟩ : ∃ z : World, z = wc := ⟨_, rfl⟩
      rw [← hW2] at hcut ⊢
      obtain ⟨z, rfl, hcut⟩ := hcut
      obtain ⟨hz1, hz2, hb2⟩ := hcut.out
      have HA2 := Lib.hid (HA1.out.keep hb2); have HR2 := Lib.hid (HR1.out.trans (AcR.below hb2)); have HB2 := Lib.hid hb2
      clear hW2 hcut hb2 HA1 HR1
      cases z with
      | true =>
        have hZ1 := hz1 rfl
        clear hz1 hz2
        obtain ⟨q9, d9, v9, l9, hl9, hA9, hr9⟩ : ∃ q d v l, l.map MsX.m = A.out ∧ AcW 76 W.heap.size W2 R ⟨A.c, q, d⟩ v l ∧ AcR W W2 R (.slice none 0 0) v := ⟨q, d, .slice none 0 0, [], by rw [hZ1]; rfl, by rw [hZ1]; exact HA2.out, HR2.out⟩
        clear hZ1
        obtain ⟨c9, hc9⟩ : ∃ c9, A.c = c9 := ⟨_, rfl⟩
        rw [hc9] at hA9
        have HL9 := Lib.hid hl9; have HA9 := Lib.hid hA9; have HC9 := Lib.hid hc9
        have hz9 := hr9.blk HZ.out (fun e => hRZ e.symm) (fun e => by cases e)
        have HZ9 := Lib.hid hz9.1; have HV9 := Lib.hid hz9.2
        have HB9 := Lib.hid (show Below w.heap.size w W2 from HBW.out.trans ((hr9.base hRW (fun b e => by cases e) (Nat.le_refl _)).mono HBW.out.size))
        clear hl9 hA9 hr9 hc9 hz9
        go_upto_region 12 with fail
        have hAe := HA9.out.keep (Below.refl _ _).drew
        have hZe : W2.drew.heap[Z]? = some (.cells (coL co0 none 0).toArray 33 (0, 0)) := HZ9.out
        have hte := there_of_block (o := 0) (n := 45) hZe (Nat.le_of_ble_eq_true rfl)
        have hSe : RAll R ((coL c9 q9 d9) ++ [v9]).toArray W2.drew := RAll.of (w := W2.drew) hAe.blk
        refine wp_region_held_drew (S := RAll R ((coL c9 q9 d9) ++ [v9]).toArray) (by kernel_rfl) hSe (fun hHeld => ?_)
        have HBe := Lib.hid (HB9.out.drew)
        obtain ⟨we, ewe⟩ : ∃ x, W2.drew = x := ⟨_, rfl⟩
        rewrite [ewe] at hHeld hAe hZe hte hSe HBe ⊢
        have HAe := Lib.hid hAe; have HZe := Lib.hid hZe; have HTe := Lib.hid hte
        have k45 : ∀ w', RAll R ((coL c9 q9 d9) ++ [v9]).toArray w' → w'.cell? ⟨R, 45, none⟩ = some v9 := fun w' h => h.r 45
        have s2e : RAll R ((coL c9 q9 d9) ++ [v9]).toArray (we.setCells Z 0 (coL c9 q9 d9)) := ⟨fun j => by
          have hg := (block_setCells (coL c9 q9 d9) 0 HZe.out).2
          exact block_cells ((hg.block R HAe.out.lt (fun e => hRZ (by simpa using e))).trans HAe.out.blk) j⟩
        clear ewe hAe hZe hte hSe
        refine tkL 0 rfl hHeld ?_
        try simp only [zA, zC, Act.put, zD, zE, zF]
        refine tkL 1 rfl hHeld ?_
        try simp only [zA, zB, zC, Act.put, zD, zE, zF]
        refine tkL 2 rfl hHeld ?_
        try simp only [zA, zB, zC, Act.put, zD, zE, zF]
        refine tkH (i := 3) (v := .agg (coL c9 q9 d9).toArray) rfl (yieldsIf_load_mid (by rfl) _ _ rfl R 0 rfl (coL c9 q9 d9) _ (fun w' h => act_range h) Tryz.underlying33 rfl (by kernel_rfl)) hHeld ?_
        try simp only [zA, zB, zC, Act.put, zD, zE, zF]
        refine tkL 4 rfl hHeld ?_
        try simp only [zA, zB, zC, Act.put, zD, zE, zF]
        refine tkL 5 rfl hHeld ?_
        try simp only [zA, zB, zC, Act.put, zD, zE, zF]
        refine tkL 6 rfl hHeld ?_
        try simp only [zA, zB, zC, Act.put, zD, zE, zF]
        refine tkL 7 rfl hHeld ?_
        try simp only [zA, zB, zC, Act.put, zD, zE, zF]
        refine wpAnyH_ready (rs := [8]) (by kernel_rfl) (by simp) ?_; refine AllReadyH.cons rfl (fun K hK => ?_) AllReadyH.nil
        rw [if_pos (by rfl)]
        refine wp_store_mid _ _ _ (by rfl) Z 0 (coL c9 q9 d9).toArray (by rfl) (by rfl) HTe.out (by kernel_rfl) (one_all rfl) ?_
        refine hK.out _ _ s2e (fun _ => ?_)
        clear hK K hHeld k45
        try simp only [zA, zB, zC, Act.put]
        have hHeld := s2e
        refine tkL 9 rfl hHeld ?_
        try simp only [zA, zB, zC, Act.put, zD, zE, zF]
        refine wpAnyH_done (by kernel_rfl) ?_ _
        clear hHeld s2e
        go_wp2_with fail
        have hZf : (we.setCells Z 0 (coL c9 q9 d9)).heap[Z]? = some (.cells (coL c9 q9 d9).toArray 33 (0, 0)) := setCells_full (n := 45) (vs := (coL c9 q9 d9).toArray) HZe.out rfl rfl
        refine bodyPost_ret (v := .tuple #[.agg (coL c9 q9 d9).toArray, v9]) ?_ rfl ?_
        · rw [results_cell_tmp rfl]
          simp [asAddr, run_loadVar_row _ Z _ _ _ _ _ hZf Tryz.underlying33 rfl (by kernel_rfl), Result.andThen]
        · exact co_end HAe.out HZe.out hRZ HV9.out (by have := HWS.out; have := HEZ.out; have := HEX.out; omega) HBe.out (by have := HEZ.out; have := HEX.out; omega) HC9.out.symm HL9.out
      | false =>
        have hZ1 := hz2 rfl
        have HZ1 := Lib.hid hZ1
        clear hz1 hz2 hZ1
        have htm1 : 0 ≤ c1.tm ∧ c1.tm ≤ 2199023255552 := by rw [← HC1.out]; exact htm
        obtain ⟨vs, hvs⟩ : ∃ vs, withS 0 c1.id = vs := ⟨_, rfl⟩
        obtain ⟨cd, hcd⟩ : ∃ cd, candC c1 = cd := ⟨_, rfl⟩
        have hcdl : cd.l = c1.l := by rw [← hcd]; rfl
        have hcdi : cd.id = c1.id := by rw [← hcd]; rfl
        have hcdv : cd.vs = vs := by rw [← hcd, ← hvs]; rfl
        have hFd : CoFit N cd := by rw [← hcd]; exact HF1.out.cand
        have hce : { c1 with tm := c1.tm + 1, role := 1, vt := c1.id, vs := vs, ld := 0, wt := 0 } = cd := by rw [← hcd, ← hvs]; rfl
        have hwr : IntKind.i64.wrap (c1.tm + 1) = c1.tm + 1 := by rw [IntKind.wrap_i64]; omega
        have HF : Hid (CoFit N cd) := hFd; have HCE := Lib.hid hce; have HCD := Lib.hid hcd; have HCDL := Lib.hid hcdl; have HCDI := Lib.hid hcdi; have HCDV := Lib.hid hcdv; have HVS := Lib.hid hvs
        have hp1 := HA2.out.put 2 (.int .i64 (c1.tm + 1)) (by decide) ⟨{ c1 with tm := c1.tm + 1 }, q, d⟩ rfl rfl rfl rfl
        have k2 : W2.cell? ⟨R, 2, none⟩ = some (.int .i64 c1.tm) := block_cells HA2.out.blk 2
        have f2 : W2.frozen? ⟨R, 2, none⟩ = false := block_free HA2.out.blk 2
        have HA3 := Lib.hid hp1.1; have HR3 := Lib.hid (HR2.out.trans hp1.2)
        have HX3 := Lib.hid (HR3.out.blk HX.out (fun e => hRX e.symm) (fun e => by cases e)).1
        clear hp1 hFd hce hcd hcdl hcdi hcdv hvs
        go_upto_region 14 with fail
        obtain ⟨W3, hW3⟩ : ∃ z : World, W2.setCell ⟨R, 2, none⟩ (.int .i64 (c1.tm + 1)) = z := ⟨_, rfl⟩
        rw [hW3] at HA3 HR3 HX3 ⊢
        clear hW3 k2 f2 hwr HA2 HR2 HB2
        have HCIV := Lib.hid (show (some (Value.int .i64 c.id) : Option Value) = some (.int .i64 c1.id) from by rw [HCI.out])
        have hA := HA3.out.keep (Below.refl _ _).drew
        have hr := HR3.out.drew
        have HXd : Hid (W3.drew.heap[X]? = some (.cells #[.int .i64 c.id, .int .i64 c.role, .int .i64 c.tm, .int .i64 c.vt, .int .i64 c.ld, .int .i64 c.wt, .int .i64 c.cm, .int .i64 c.sf, .int .i64 c.l.b, .int .i64 c.l.bt, .int .u16 c.l.j.ov, .int .u16 c.l.j.ox, .int .u16 c.l.j.ol, .int .i64 c.l.j.oe, .int .i64 c.l.j.ok, .int .u16 c.l.j.nv, .int .u16 c.l.j.nx, .int .u16 c.l.j.nl, .int .i64 c.l.j.ne, .int .i64 c.l.j.nk, .bool c.l.j.two, .slice p c.l.es.length k, .string c.sn, .int .u16 c.vs, .int .u16 c.hd, .int .i64 (c.nx 0), .int .i64 (c.nx 1), .int .i64 (c.nx 2), .int .i64 (c.nx 3), .int .i64 (c.nx 4), .int .i64 (c.nx 5), .int .i64 (c.nx 6), .int .i64 (c.nx 7), .int .i64 (c.nx 8), .int .i64 (c.nx 9), .int .i64 (c.mt 0), .int .i64 (c.mt 1), .int .i64 (c.mt 2), .int .i64 (c.mt 3), .int .i64 (c.mt 4), .int .i64 (c.mt 5), .int .i64 (c.mt 6), .int .i64 (c.mt 7), .int .i64 (c.mt 8), .int .i64 (c.mt 9)] 33 (0, 0))) := HX3.out
        have h0 : One X 0 (.int .i64 c1.id) W3.drew := ⟨by rw [HCI.out]; exact block_cells HXd.out 0⟩
        refine wp_region_held_drew (S := One X 0 (.int .i64 c1.id)) (by kernel_rfl) h0 (fun hHeld => ?_)
        obtain ⟨wd, ewd⟩ : ∃ x, W3.drew = x := ⟨_, rfl⟩
        rewrite [ewd] at hA hr h0 hHeld HXd ⊢
        clear ewd HA3 HR3 HX3
        have k0 : ∀ w', One X 0 (.int .i64 c1.id) w' → w'.cell? ⟨X, 0, none⟩ = some (.int .i64 c1.id) := fun w' h => h.r
        refine tkL 0 rfl hHeld ?_
        try simp only [zA, zC, Act.put, zD, zE, zF]
        refine tkL 1 rfl hHeld ?_
        try simp only [zA, zB, zC, Act.put, zD, zE, zF]
        refine tkL 2 rfl hHeld ?_
        try simp only [zA, zB, zC, Act.put, zD, zE, zF]
        refine tkL 3 rfl hHeld ?_
        try simp only [zA, zB, zC, Act.put, zD, zE, zF]
        refine tkL 4 rfl hHeld ?_
        try simp only [zA, zB, zC, Act.put, zD, zE, zF]
        refine tkL 5 rfl hHeld ?_
        try simp only [zA, zB, zC, Act.put, zD, zE, zF]
        refine tkL 6 rfl hHeld ?_
        try simp only [zA, zB, zC, Act.put, zD, zE, zF]
        refine tkL 7 rfl hHeld ?_
        try simp only [zA, zB, zC, Act.put, zD, zE, zF]
        refine tkL 8 rfl hHeld ?_
        try simp only [zA, zB, zC, Act.put, zD, zE, zF]
        clear k0
        refine wpAnyH_ready (rs := [9]) (by kernel_rfl) (by simp) ?_; refine AllReadyH.cons rfl (fun K hK => ?_) AllReadyH.nil; (try simp only [zA, zB, zC]); go_simp
        refine (show Calls Tryz.prog 52 #[.int .u16 0, .int .i64 c1.id] wd fun e w' => e = .returned (.int .u16 vs) ∧ wd = w' from by have := refWith_any 0 c1.id wd (by decide) (by decide); rw [show bits .or .u16 0 (oneB c1.id) = vs from HVS.out] at this; exact this).mono ?_; rintro r0 w4 ⟨rfl, rfl⟩
        have hq0 := hA.put 1 (.int .i64 1) (by decide) ⟨{ c1 with tm := c1.tm + 1, role := 1 }, q, d⟩ rfl rfl rfl rfl
        have k1 : wd.cell? ⟨R, 1, none⟩ = some (.int .i64 c1.role) := block_cells hA.blk 1
        have f1 : wd.frozen? ⟨R, 1, none⟩ = false := block_free hA.blk 1
        have y0 := (hq0.2.blk HXd.out (fun e => hRX e.symm) (fun e => by cases e)).1
        have s0 : One X 0 (.int .i64 c1.id) (wd.setCell ⟨R, 1, none⟩ (.int .i64 1)) := ⟨(block_cells y0 0).trans HCIV.out⟩
        have hq1 := hq0.1.put 3 (.int .i64 c1.id) (by decide) ⟨{ c1 with tm := c1.tm + 1, role := 1, vt := c1.id }, q, d⟩ rfl rfl rfl rfl
        have k3 : (wd.setCell ⟨R, 1, none⟩ (.int .i64 1)).cell? ⟨R, 3, none⟩ = some (.int .i64 c1.vt) := block_cells hq0.1.blk 3
        have f3 : (wd.setCell ⟨R, 1, none⟩ (.int .i64 1)).frozen? ⟨R, 3, none⟩ = false := block_free hq0.1.blk 3
        have y1 := (hq1.2.blk y0 (fun e => hRX e.symm) (fun e => by cases e)).1
        have s1 : One X 0 (.int .i64 c1.id) ((wd.setCell ⟨R, 1, none⟩ (.int .i64 1)).setCell ⟨R, 3, none⟩ (.int .i64 c1.id)) := ⟨(block_cells y1 0).trans HCIV.out⟩
        have hq2 := hq1.1.put 23 (.int .u16 vs) (by decide) ⟨{ c1 with tm := c1.tm + 1, role := 1, vt := c1.id, vs := vs }, q, d⟩ rfl rfl rfl rfl
        have k23 : ((wd.setCell ⟨R, 1, none⟩ (.int .i64 1)).setCell ⟨R, 3, none⟩ (.int .i64 c1.id)).cell? ⟨R, 23, none⟩ = some (.int .u16 c1.vs) := block_cells hq1.1.blk 23
        have f23 : ((wd.setCell ⟨R, 1, none⟩ (.int .i64 1)).setCell ⟨R, 3, none⟩ (.int .i64 c1.id)).frozen? ⟨R, 23, none⟩ = false := block_free hq1.1.blk 23
        have y2 := (hq2.2.blk y1 (fun e => hRX e.symm) (fun e => by cases e)).1
        have s2 : One X 0 (.int .i64 c1.id) (((wd.setCell ⟨R, 1, none⟩ (.int .i64 1)).setCell ⟨R, 3, none⟩ (.int .i64 c1.id)).setCell ⟨R, 23, none⟩ (.int .u16 vs)) := ⟨(block_cells y2 0).trans HCIV.out⟩
        have hq3 := hq2.1.put 4 (.int .i64 0) (by decide) ⟨{ c1 with tm := c1.tm + 1, role := 1, vt := c1.id, vs := vs, ld := 0 }, q, d⟩ rfl rfl rfl rfl
        have k4 : (((wd.setCell ⟨R, 1, none⟩ (.int .i64 1)).setCell ⟨R, 3, none⟩ (.int .i64 c1.id)).setCell ⟨R, 23, none⟩ (.int .u16 vs)).cell? ⟨R, 4, none⟩ = some (.int .i64 c1.ld) := block_cells hq2.1.blk 4
        have f4 : (((wd.setCell ⟨R, 1, none⟩ (.int .i64 1)).setCell ⟨R, 3, none⟩ (.int .i64 c1.id)).setCell ⟨R, 23, none⟩ (.int .u16 vs)).frozen? ⟨R, 4, none⟩ = false := block_free hq2.1.blk 4
        have y3 := (hq3.2.blk y2 (fun e => hRX e.symm) (fun e => by cases e)).1
        have s3 : One X 0 (.int .i64 c1.id) ((((wd.setCell ⟨R, 1, none⟩ (.int .i64 1)).setCell ⟨R, 3, none⟩ (.int .i64 c1.id)).setCell ⟨R, 23, none⟩ (.int .u16 vs)).setCell ⟨R, 4, none⟩ (.int .i64 0)) := ⟨(block_cells y3 0).trans HCIV.out⟩
        have hq4 := hq3.1.put 5 (.int .i64 0) (by decide) ⟨{ c1 with tm := c1.tm + 1, role := 1, vt := c1.id, vs := vs, ld := 0, wt := 0 }, q, d⟩ rfl rfl rfl rfl
        have k5 : ((((wd.setCell ⟨R, 1, none⟩ (.int .i64 1)).setCell ⟨R, 3, none⟩ (.int .i64 c1.id)).setCell ⟨R, 23, none⟩ (.int .u16 vs)).setCell ⟨R, 4, none⟩ (.int .i64 0)).cell? ⟨R, 5, none⟩ = some (.int .i64 c1.wt) := block_cells hq3.1.blk 5
        have f5 : ((((wd.setCell ⟨R, 1, none⟩ (.int .i64 1)).setCell ⟨R, 3, none⟩ (.int .i64 c1.id)).setCell ⟨R, 23, none⟩ (.int .u16 vs)).setCell ⟨R, 4, none⟩ (.int .i64 0)).frozen? ⟨R, 5, none⟩ = false := block_free hq3.1.blk 5
        have y4 := (hq4.2.blk y3 (fun e => hRX e.symm) (fun e => by cases e)).1
        have s4 : One X 0 (.int .i64 c1.id) (((((wd.setCell ⟨R, 1, none⟩ (.int .i64 1)).setCell ⟨R, 3, none⟩ (.int .i64 c1.id)).setCell ⟨R, 23, none⟩ (.int .u16 vs)).setCell ⟨R, 4, none⟩ (.int .i64 0)).setCell ⟨R, 5, none⟩ (.int .i64 0)) := ⟨(block_cells y4 0).trans HCIV.out⟩
        have HR2 := Lib.hid (((((hr.trans hq0.2).trans hq1.2).trans hq2.2).trans hq3.2).trans hq4.2)
        have HA2 := Lib.hid hq4.1
        rw [HCE.out] at HA2
        have HXe := Lib.hid y4
        clear hA hr hq0 hq1 hq2 hq3 hq4 y0 y1 y2 y3 y4
        refine hK.out _ _ h0 (fun _ => ?_)
        clear hK K hHeld
        try simp only [zA, zB, zC, Act.put, zD, zE, zF]
        have hHeld := h0
        refine tkL 10 rfl hHeld ?_
        try simp only [zA, zB, zC, Act.put, zD, zE, zF]
        refine tkL 11 rfl hHeld ?_
        try simp only [zA, zB, zC, Act.put, zD, zE, zF]
        refine tkL 12 rfl hHeld ?_
        try simp only [zA, zB, zC, Act.put, zD, zE, zF]
        refine wpAnyH_ready (rs := [13]) (by kernel_rfl) (by simp) ?_; refine AllReadyH.cons rfl (fun K hK => ?_) AllReadyH.nil
        try simp only [zA, zB, zC]
        go_simp
        refine hK.out _ _ s0 (fun _ => ?_)
        clear hK K hHeld k1 f1
        try simp only [zA, zB, zC, Act.put, zD, zE, zF]
        have hHeld := s0
        refine tkL 14 rfl hHeld ?_
        try simp only [zA, zB, zC, Act.put, zD, zE, zF]
        refine tkL 15 rfl hHeld ?_
        try simp only [zA, zB, zC, Act.put, zD, zE, zF]
        refine tkL 16 rfl hHeld ?_
        try simp only [zA, zB, zC, Act.put, zD, zE, zF]
        refine wpAnyH_ready (rs := [17]) (by kernel_rfl) (by simp) ?_; refine AllReadyH.cons rfl (fun K hK => ?_) AllReadyH.nil
        try simp only [zA, zB, zC]
        go_simp
        refine hK.out _ _ s1 (fun _ => ?_)
        clear hK K hHeld k3 f3
        try simp only [zA, zB, zC, Act.put, zD, zE, zF]
        have hHeld := s1
        refine tkL 18 rfl hHeld ?_
        try simp only [zA, zB, zC, Act.put, zD, zE, zF]
        refine tkL 19 rfl hHeld ?_
        try simp only [zA, zB, zC, Act.put, zD, zE, zF]
        refine tkL 20 rfl hHeld ?_
        try simp only [zA, zB, zC, Act.put, zD, zE, zF]
        refine wpAnyH_ready (rs := [21]) (by kernel_rfl) (by simp) ?_; refine AllReadyH.cons rfl (fun K hK => ?_) AllReadyH.nil
        try simp only [zA, zB, zC]
        go_simp
        refine hK.out _ _ s2 (fun _ => ?_)
        clear hK K hHeld k23 f23
        try simp only [zA, zB, zC, Act.put, zD, zE, zF]
        have hHeld := s2
        refine tkL 22 rfl hHeld ?_
        try simp only [zA, zB, zC, Act.put, zD, zE, zF]
        refine tkL 23 rfl hHeld ?_
        try simp only [zA, zB, zC, Act.put, zD, zE, zF]
        refine tkL 24 rfl hHeld ?_
        try simp only [zA, zB, zC, Act.put, zD, zE, zF]
        refine wpAnyH_ready (rs := [25]) (by kernel_rfl) (by simp) ?_; refine AllReadyH.cons rfl (fun K hK => ?_) AllReadyH.nil
        try simp only [zA, zB, zC]
        go_simp
        refine hK.out _ _ s3 (fun _ => ?_)
        clear hK K hHeld k4 f4
        try simp only [zA, zB, zC, Act.put, zD, zE, zF]
        have hHeld := s3
        refine tkL 26 rfl hHeld ?_
        try simp only [zA, zB, zC, Act.put, zD, zE, zF]
        refine tkL 27 rfl hHeld ?_
        try simp only [zA, zB, zC, Act.put, zD, zE, zF]
        refine tkL 28 rfl hHeld ?_
        try simp only [zA, zB, zC, Act.put, zD, zE, zF]
        refine wpAnyH_ready (rs := [29]) (by kernel_rfl) (by simp) ?_; refine AllReadyH.cons rfl (fun K hK => ?_) AllReadyH.nil
        try simp only [zA, zB, zC]
        go_simp
        refine hK.out _ _ s4 (fun _ => ?_)
        clear hK K hHeld k5 f5
        try simp only [zA, zB, zC, Act.put, zD, zE, zF]
        refine wpAnyH_done (by kernel_rfl) ?_ _
        obtain ⟨W4, hW4⟩ : ∃ z : World, (((((wd.setCell ⟨R, 1, none⟩ (.int .i64 1)).setCell ⟨R, 3, none⟩ (.int .i64 c1.id)).setCell ⟨R, 23, none⟩ (.int .u16 vs)).setCell ⟨R, 4, none⟩ (.int .i64 0)).setCell ⟨R, 5, none⟩ (.int .i64 0)) = z := ⟨_, rfl⟩
        rw [hW4] at HA2 HR2 HXe ⊢
        clear hW4 h0 s0 s1 s2 s3 s4 HXd
        obtain ⟨G2, hG2⟩ : ∃ G, electsN J vs = G := ⟨_, rfl⟩
        have HG2 := Lib.hid hG2
        have HVF : Hid (0 ≤ vs ∧ vs ≤ 65535) := by show _ ∧ _; rw [← HVS.out]; exact bits_fit _ _ _
        clear hG2
        go_upto_region 15 with fail
        have h0 : Below W4.heap.size W4 W4.drew := (Below.refl _ _).drew
        refine wp_region_held_drew (S := fun w' => Below W4.heap.size W4 w') (by kernel_rfl) h0 (fun hHeld => ?_)
        obtain ⟨wd2, ewd⟩ : ∃ x, W4.drew = x := ⟨_, rfl⟩
        rewrite [ewd] at h0 hHeld ⊢
        have k23 : ∀ w', Below W4.heap.size W4 w' → w'.cell? ⟨R, 23, none⟩ = some (.int .u16 vs) := fun w' h => by rw [← HCDV.out]; exact block_cells (below_block h HA2.out.lt HA2.out.blk) 23
        clear ewd
        refine tkL 0 rfl hHeld ?_
        try simp only [zA, zC, Act.put, zD, zE, zF]
        refine tkL 2 rfl hHeld ?_
        try simp only [zA, zB, zC, Act.put, zD, zE, zF]
        refine tkL 3 rfl hHeld ?_
        try simp only [zA, zB, zC, Act.put, zD, zE, zF]
        refine tkL 4 rfl hHeld ?_
        try simp only [zA, zB, zC, Act.put, zD, zE, zF]
        refine tkL 5 rfl hHeld ?_
        try simp only [zA, zB, zC, Act.put, zD, zE, zF]
        refine tkL 6 rfl hHeld ?_
        try simp only [zA, zB, zC, Act.put, zD, zE, zF]
        refine wpAnyH_ready (rs := [1]) (by kernel_rfl) (by simp) ?_; refine AllReadyH.cons rfl (fun K hK => ?_) AllReadyH.nil; (try simp only [zA, zB, zC]); go_simp
        refine (show Calls Tryz.prog 54 #[.pointer (some ⟨R, 0, none⟩)] wd2 fun e w' => e = .returned (.agg #[.int .u16 J.ov, .int .u16 J.ox, .int .u16 J.ol, .int .i64 J.oe, .int .i64 J.ok, .int .u16 J.nv, .int .u16 J.nx, .int .u16 J.nl, .int .i64 J.ne, .int .i64 J.nk, .bool J.two]) ∧ Below wd2.heap.size wd2 w' from by have := rjoint_act R cd q d (.slice none 0 0) wd2 (below_block h0 HA2.out.lt HA2.out.blk) HF.out.lo.f ((EnSl.of_own HA2.out.en).keep h0 (Nat.le_refl _)); rw [HCDL.out, HJ.out] at this; exact this).mono ?_; rintro r0 w3 ⟨rfl, bs3⟩
        have s3 := h0.trans (bs3.mono h0.size)
        refine hK.out _ _ s3 (fun _ => ?_)
        clear hK K hHeld bs3 
        try simp only [zA, zB, zC, Act.put, zD, zE, zF]
        have hHeld := s3
        refine wpAnyH_ready (rs := [7]) (by kernel_rfl) (by simp) ?_; refine AllReadyH.cons rfl (fun K hK => ?_) AllReadyH.nil; (try simp only [zA, zB, zC]); go_simp
        refine (show Calls Tryz.prog 53 #[.agg #[.int .u16 J.ov, .int .u16 J.ox, .int .u16 J.ol, .int .i64 J.oe, .int .i64 J.ok, .int .u16 J.nv, .int .u16 J.nx, .int .u16 J.nl, .int .i64 J.ne, .int .i64 J.nk, .bool J.two], .int .u16 vs] w3 fun e w' => e = .returned (.bool G2) ∧ Below w3.heap.size w3 w' from by have := rjElects J vs HJO.out HVF.out.1 HVF.out.2 w3; rw [HG2.out] at this; exact this).mono ?_; rintro r0 w4 ⟨rfl, bs4⟩
        have s4 := s3.trans (bs4.mono s3.size)
        refine hK.out _ _ s4 (fun _ => ?_)
        clear hK K hHeld bs4 
        try simp only [zA, zB, zC, Act.put, zD, zE, zF]
        have hHeld := s4
        refine wpAnyH_done (by kernel_rfl) ?_ _
        have HA4 := Lib.hid (HA2.out.keep s4); have HR4 := Lib.hid (HR2.out.trans (AcR.below s4)); have HX4 := Lib.hid (below_block s4 (block_lt HXe.out) HXe.out)
        clear hHeld s4 s3 h0 k23 HA2 HR2 HXe
        cases G2 with
        | true =>
          have HZ2 : Hid (A = ⟨winC cd, allM (winC cd)⟩) := by show _ = _; rw [HZ1.out, ← HCD.out]; exact (stands_yes (c := c1) [] (by rw [HJ.out, HCD.out, HCDV.out]; exact HG2.out)).trans rfl
          have HWI := Lib.hid (rwins_act W.heap.size R N cd q d (.slice none 0 0) [] w4 HA4.out HF.out (by have := HNN.out; omega) (by decide))
          go_wp2_with fail
          refine HWI.out.mono ?_; rintro r w5 ⟨rfl, v9, q9, d9, l9, hl5, hA5, hr5⟩
          have hl9 : l9.map MsX.m = A.out := by rw [HZ2.out, hl5]; rfl
          have hA9 : AcW 76 W.heap.size w5 R ⟨A.c, q9, d9⟩ v9 l9 := by rw [HZ2.out]; exact hA5
          have hr9 := HR4.out.trans hr5
          clear hl5 hA5 hr5 HWI HR4 HA4
          obtain ⟨c9, hc9⟩ : ∃ c9, A.c = c9 := ⟨_, rfl⟩
          rw [hc9] at hA9
          have HL9 := Lib.hid hl9; have HA9 := Lib.hid hA9; have HC9 := Lib.hid hc9
          have hz9 := hr9.blk HZ.out (fun e => hRZ e.symm) (fun e => by cases e)
          have HZ9 := Lib.hid hz9.1; have HV9 := Lib.hid hz9.2
          have HB9 := Lib.hid (show Below w.heap.size w w5 from HBW.out.trans ((hr9.base hRW (fun b e => by cases e) (Nat.le_refl _)).mono HBW.out.size))
          clear hl9 hA9 hr9 hc9 hz9
          go_upto_region 17 with fail
          have hAe := HA9.out.keep (Below.refl _ _).drew
          have hZe : w5.drew.heap[Z]? = some (.cells (coL co0 none 0).toArray 33 (0, 0)) := HZ9.out
          have hte := there_of_block (o := 0) (n := 45) hZe (Nat.le_of_ble_eq_true rfl)
          have hSe : RAll R ((coL c9 q9 d9) ++ [v9]).toArray w5.drew := RAll.of (w := w5.drew) hAe.blk
          refine wp_region_held_drew (S := RAll R ((coL c9 q9 d9) ++ [v9]).toArray) (by kernel_rfl) hSe (fun hHeld => ?_)
          have HBe := Lib.hid (HB9.out.drew)
          obtain ⟨we, ewe⟩ : ∃ x, w5.drew = x := ⟨_, rfl⟩
          rewrite [ewe] at hHeld hAe hZe hte hSe HBe ⊢
          have HAe := Lib.hid hAe; have HZe := Lib.hid hZe; have HTe := Lib.hid hte
          have k45 : ∀ w', RAll R ((coL c9 q9 d9) ++ [v9]).toArray w' → w'.cell? ⟨R, 45, none⟩ = some v9 := fun w' h => h.r 45
          have s2e : RAll R ((coL c9 q9 d9) ++ [v9]).toArray (we.setCells Z 0 (coL c9 q9 d9)) := ⟨fun j => by
            have hg := (block_setCells (coL c9 q9 d9) 0 HZe.out).2
            exact block_cells ((hg.block R HAe.out.lt (fun e => hRZ (by simpa using e))).trans HAe.out.blk) j⟩
          clear ewe hAe hZe hte hSe
          refine tkL 0 rfl hHeld ?_
          try simp only [zA, zC, Act.put, zD, zE, zF]
          refine tkL 1 rfl hHeld ?_
          try simp only [zA, zB, zC, Act.put, zD, zE, zF]
          refine tkL 2 rfl hHeld ?_
          try simp only [zA, zB, zC, Act.put, zD, zE, zF]
          refine tkH (i := 3) (v := .agg (coL c9 q9 d9).toArray) rfl (yieldsIf_load_mid (by rfl) _ _ rfl R 0 rfl (coL c9 q9 d9) _ (fun w' h => act_range h) Tryz.underlying33 rfl (by kernel_rfl)) hHeld ?_
          try simp only [zA, zB, zC, Act.put, zD, zE, zF]
          refine tkL 4 rfl hHeld ?_
          try simp only [zA, zB, zC, Act.put, zD, zE, zF]
          refine tkL 5 rfl hHeld ?_
          try simp only [zA, zB, zC, Act.put, zD, zE, zF]
          refine tkL 6 rfl hHeld ?_
          try simp only [zA, zB, zC, Act.put, zD, zE, zF]
          refine tkL 7 rfl hHeld ?_
          try simp only [zA, zB, zC, Act.put, zD, zE, zF]
          refine wpAnyH_ready (rs := [8]) (by kernel_rfl) (by simp) ?_; refine AllReadyH.cons rfl (fun K hK => ?_) AllReadyH.nil
          rw [if_pos (by rfl)]
          refine wp_store_mid _ _ _ (by rfl) Z 0 (coL c9 q9 d9).toArray (by rfl) (by rfl) HTe.out (by kernel_rfl) (one_all rfl) ?_
          refine hK.out _ _ s2e (fun _ => ?_)
          clear hK K hHeld k45
          try simp only [zA, zB, zC, Act.put]
          have hHeld := s2e
          refine tkL 9 rfl hHeld ?_
          try simp only [zA, zB, zC, Act.put, zD, zE, zF]
          refine wpAnyH_done (by kernel_rfl) ?_ _
          clear hHeld s2e
          go_wp2_with fail
          have hZf : (we.setCells Z 0 (coL c9 q9 d9)).heap[Z]? = some (.cells (coL c9 q9 d9).toArray 33 (0, 0)) := setCells_full (n := 45) (vs := (coL c9 q9 d9).toArray) HZe.out rfl rfl
          refine bodyPost_ret (v := .tuple #[.agg (coL c9 q9 d9).toArray, v9]) ?_ rfl ?_
          · rw [results_cell_tmp rfl]
            simp [asAddr, run_loadVar_row _ Z _ _ _ _ _ hZf Tryz.underlying33 rfl (by kernel_rfl), Result.andThen]
          · exact co_end HAe.out HZe.out hRZ HV9.out (by have := HWS.out; have := HEZ.out; have := HEX.out; omega) HBe.out (by have := HEZ.out; have := HEX.out; omega) HC9.out.symm HL9.out
        | false =>
          have HZ2 : Hid (A = ⟨cd, askL cd⟩) := by show _ = _; rw [HZ1.out, ← HCD.out]; exact (stands_no (c := c1) [] (by rw [HJ.out, HCD.out, HCDV.out]; exact HG2.out)).trans rfl
          obtain ⟨XL, hX⟩ : ∃ X, cd.l.last = X := ⟨_, rfl⟩
          obtain ⟨Y, hY⟩ : ∃ Y, lastTerm cd.l = Y := ⟨_, rfl⟩
          obtain ⟨V, hV⟩ : ∃ V, votingN J = V := ⟨_, rfl⟩
          obtain ⟨O, hO⟩ : ∃ O, listS V = O := ⟨_, rfl⟩
          have hVf : 0 ≤ V ∧ V ≤ 65535 := by rw [← hV]; unfold votingN; exact ⟨pickB_0 _ _ _ (bits_fit _ _ _).1, pickB_1 _ _ _ (bits_fit _ _ _).2⟩
          have hO9 : O.length ≤ 9 := by rw [← hO]; exact lst_le _ 9
          have hOr : ∀ x ∈ O, 1 ≤ x ∧ x ≤ 9 := by rw [← hO]; intro x hx; have := lst_range _ 9 x hx; omega
          have hask : askM cd = { ms0 with k := 1, ix := XL, lt := Y, cm := cd.cm } := by rw [← hX, ← hY]; rfl
          have hAL : askL cd = (O.filter fun n => decide (n ≠ cd.id)).map fun n => putM cd n { ms0 with k := 1, ix := XL, lt := Y, cm := cd.cm } := by
            unfold askL; rw [HCDL.out, HJ.out, hV, hask, ← hO]; unfold listS; rw [lst_drop _ _ hVf.1 9]
          have HCJ := Lib.hid (show Calls Tryz.prog 54 #[.pointer (some ⟨R, 0, none⟩)] w4 fun e w' => e = .returned (.agg #[.int .u16 J.ov, .int .u16 J.ox, .int .u16 J.ol, .int .i64 J.oe, .int .i64 J.ok, .int .u16 J.nv, .int .u16 J.nx, .int .u16 J.nl, .int .i64 J.ne, .int .i64 J.nk, .bool J.two]) ∧ Below w4.heap.size w4 w' from by have := rjoint_act R cd q d (.slice none 0 0) w4 HA4.out.blk HF.out.lo.f (EnSl.of_own HA4.out.en); rw [HCDL.out, HJ.out] at this; exact this)
          have HCV := Lib.hid (show ∀ w, Calls Tryz.prog 75 #[.agg #[.int .u16 J.ov, .int .u16 J.ox, .int .u16 J.ol, .int .i64 J.oe, .int .i64 J.ok, .int .u16 J.nv, .int .u16 J.nx, .int .u16 J.nl, .int .i64 J.ne, .int .i64 J.nk, .bool J.two]] w fun e w' => e = .returned (.int .u16 V) ∧ Below w.heap.size w w' from fun w => by have := rjVoting J HJO.out w; rw [hV] at this; exact this)
          have HCL := Lib.hid (show ∀ w, Calls Tryz.prog 74 #[.int .u16 V] w fun e w' => ∃ v, e = .returned v ∧ w'.ownsRow w.heap.size 3 1 v O.length (O.map (Value.int .i64)) ∧ Below w.heap.size w w' from fun w => by
            have := refList_any V w hVf.1 hVf.2; rw [show lst V 9 = O from hO] at this; exact this)
          have HOR := Lib.hid hOr; have HAL := Lib.hid hAL; have HXL := Lib.hid hX; have HYL := Lib.hid hY
          clear hX hY hV hO hask hAL hVf hOr
          go_wp2_with fail
          refine HCJ.out.mono ?_; rintro r wa ⟨rfl, ba⟩
          have HBa := Lib.hid ba
          clear ba HCJ
          go_wp2_with fail
          refine (HCV.out wa).mono ?_; rintro r wb ⟨rfl, bb⟩
          have HBb := Lib.hid (HBa.out.trans (bb.mono HBa.out.size))
          clear bb HCV HBa
          go_wp2_with fail
          refine (HCL.out wb).mono ?_; rintro r wl ⟨u, rfl, hu0, b10⟩
          have b1 := HBb.out.trans (b10.mono HBb.out.size)
          have hu := hu0.mono HBb.out.size
          obtain ⟨pu, cu, rfl⟩ := own_formH hu
          have HU := Lib.hid hu
          have HB1 := Lib.hid b1
          clear hu hu0 b1 b10 HCL HBb
          go_wp2_with fail
          go_loopw [6] (fun i wr => ∃ n : Nat, n ≤ O.length ∧ i = .int .i64 n ∧ Hid (∃ v' l', l'.map MsX.m = ((O.take n).filter fun n => decide (n ≠ cd.id)).map (fun n => putM cd n { ms0 with k := 1, ix := XL, lt := Y, cm := cd.cm }) ∧ l'.length ≤ n ∧ AcW 76 W.heap.size wr R ⟨cd, q, d⟩ v' l' ∧ AcR W wr R (.slice none 0 0) v' ∧ wl.heap.size ≤ wr.heap.size ∧ ∀ g, w4.heap.size ≤ g → g < wl.heap.size → wr.heap[g]? = wl.heap[g]? ∧ v'.ownBlock ≠ some g)) (fun i _ => O.length - (intOf i).toNat)
          case atStart => exact ⟨0, Nat.zero_le _, rfl, .slice none 0 0, [], rfl, Nat.le_refl _, HA4.out.keep HB1.out, HR4.out.trans (AcR.below HB1.out), Nat.le_refl _, fun g hg _ => ⟨rfl, fun e => by cases e⟩⟩
          case round =>
            obtain ⟨n, hn, rfl, HS⟩ := hrel
            obtain ⟨wk, rfl⟩ : ∃ wk : World, wk = wr := ⟨_, rfl⟩
            by_cases hlt : n < O.length
            · have hd : decide ((n : Int) < (O.length : Int)) = true := by simp; omega
              have hkm : (n : Int) < (O.length : Int) := by omega
              have hn0 : 0 ≤ (n : Int) := by omega
              obtain ⟨v', l', hl1, hl2, hA, hr, hsz, hg⟩ := HS.out
              obtain ⟨g, rfl, hgb, hgl, hgc⟩ := own_at2 HU.out hlt
              obtain ⟨x, hxx⟩ : ∃ x, O[n] = x := ⟨_, rfl⟩
              have HCELL := Lib.hid (show ∀ w' : World, Below wk.heap.size wk w' → w'.cell? ⟨g, n, none⟩ = some (.int .i64 x) from fun w' hw' => by rw [hgc w' ((hw'.block g (by omega)).trans (hg g hgb hgl).1) n hlt, List.getElem?_map, List.getElem?_eq_getElem hlt, hxx]; rfl)
              have HGK := Lib.hid (show g < wk.heap.size ∧ g ≠ R ∧ v'.ownBlock ≠ some g from ⟨by omega, by have := HA4.out.lt; omega, (hg g hgb hgl).2⟩)
              have HXK := Lib.hid (hr.blk HX.out (fun e => hRX e.symm) (fun e => by cases e)).1
              have hkp : ∀ v2 (w2 : World), AcR wk w2 R v' v2 → wl.heap.size ≤ w2.heap.size ∧ ∀ g, w4.heap.size ≤ g → g < wl.heap.size → w2.heap[g]? = wl.heap[g]? ∧ v2.ownBlock ≠ some g := fun v2 w2 hr2 => ⟨Nat.le_trans hsz hr2.size, fun g hg1 hg2 => by
                obtain ⟨h1, h2⟩ := hg g hg1 hg2
                have hRg : g ≠ R := by have := HA4.out.lt; omega
                obtain ⟨h3, h4⟩ := hr2.oth g (by omega) hRg h2
                exact ⟨h3.trans h1, h4⟩⟩
              have HKP := Lib.hid hkp
              have HA1 := Lib.hid hA; have HR1 := Lib.hid hr; have HL1 := Lib.hid hl1; have HL2 := Lib.hid hl2
              have HTK := Lib.hid (show (O.take (n + 1)).filter (fun n => decide (n ≠ cd.id)) = (O.take n).filter (fun n => decide (n ≠ cd.id)) ++ (if x = cd.id then [] else [x]) from by
                rw [List.take_succ_eq_append_getElem hlt, List.filter_append, hxx]
                by_cases e : x = cd.id
                · simp [e]
                · simp [e])
              clear hl1 hl2 hA hr hsz hg hgc hxx HS hgb hgl hkp
              go_upto_region 22 with fail
              have h0 : Below wk.heap.size wk wk.drew := (Below.refl _ _).drew
              refine wp_region_held_drew (S := fun w' => Below wk.heap.size wk w') (by kernel_rfl) h0 (fun hHeld => ?_)
              obtain ⟨we, ewd⟩ : ∃ x, wk.drew = x := ⟨_, rfl⟩
              rewrite [ewd] at h0 hHeld ⊢
              have kc := HCELL.out
              have kx : ∀ w', Below wk.heap.size wk w' → w'.cell? ⟨X, 0, none⟩ = some (.int .i64 cd.id) := fun w' h => by rw [HCDI.out, HCI.out]; exact block_cells (below_block h (block_lt HXK.out) HXK.out) 0
              clear ewd
              refine tkL 0 rfl hHeld ?_
              try simp only [zA, zC, Act.put, zD, zE, zF]
              refine tkL 1 rfl hHeld ?_
              try simp only [zA, zB, zC, Act.put, zD, zE, zF]
              refine tkL 2 rfl hHeld ?_
              try simp only [zA, zB, zC, Act.put, zD, zE, zF]
              refine tkL 3 rfl hHeld ?_
              try simp only [zA, zB, zC, Act.put, zD, zE, zF]
              refine tkL 4 rfl hHeld ?_
              try simp only [zA, zB, zC, Act.put, zD, zE, zF]
              refine tkL 5 rfl hHeld ?_
              try simp only [zA, zB, zC, Act.put, zD, zE, zF]
              refine tkL 6 rfl hHeld ?_
              try simp only [zA, zB, zC, Act.put, zD, zE, zF]
              refine wpAnyH_done (by kernel_rfl) ?_ _
              have H0 := Lib.hid h0
              clear hHeld h0 kc kx
              by_cases e : x = cd.id
              · have hd2 : (x != cd.id) = false := by simp [e]
                have HS2 : Hid (∃ v' l', l'.map MsX.m = ((O.take (n + 1)).filter fun n => decide (n ≠ cd.id)).map (fun n => putM cd n { ms0 with k := 1, ix := XL, lt := Y, cm := cd.cm }) ∧ l'.length ≤ n + 1 ∧ AcW 76 W.heap.size we R ⟨cd, q, d⟩ v' l' ∧ AcR W we R (.slice none 0 0) v' ∧ wl.heap.size ≤ we.heap.size ∧ ∀ g, w4.heap.size ≤ g → g < wl.heap.size → we.heap[g]? = wl.heap[g]? ∧ v'.ownBlock ≠ some g) :=
                  ⟨v', l', by rw [HL1.out, HTK.out, if_pos e, List.append_nil], by have := HL2.out; omega, HA1.out.keep H0.out, HR1.out.trans (AcR.below H0.out), HKP.out v' we (AcR.below H0.out)⟩
                clear e
                go_wp2_with fail
                go_roundw
                case rel => exact ⟨n + 1, by omega, by go_num, HS2⟩
                case measure => simp [intOf]; omega
              · have hd2 : (x != cd.id) = true := by simp [e]
                have HE := Lib.hid e
                have HA6 := Lib.hid (HA1.out.keep H0.out); have HR6 := Lib.hid (HR1.out.trans (AcR.below H0.out))
                clear e
                have HSF := Lib.hid (show ∀ w', Below we.heap.size we w' → AskS R g n (coL cd q d) (.int .i64 x) w' from fun w' h => AskS.of (HA6.out.keep h) (HCELL.out w' (H0.out.trans (h.mono H0.out.size))))
                go_upto_region 23 with fail
                have h0 : Below we.heap.size we we.drew := (Below.refl _ _).drew
                have hS0 := HSF.out _ h0
                refine wp_region_held_drew (S := AskS R g n (coL cd q d) (.int .i64 x)) (by kernel_rfl) hS0 (fun hHeld => ?_)
                obtain ⟨wf, ewd⟩ : ∃ x, we.drew = x := ⟨_, rfl⟩
                rewrite [ewd] at h0 hS0 hHeld ⊢
                have kc : ∀ w', AskS R g n (coL cd q d) (.int .i64 x) w' → w'.cell? ⟨g, n, none⟩ = some (.int .i64 x) := fun w' h => h.c
                have k6 : ∀ w', AskS R g n (coL cd q d) (.int .i64 x) w' → w'.cell? ⟨R, 6, none⟩ = some (.int .i64 cd.cm) := fun w' h => h.r 6 (by decide)
                have HKL := Lib.hid (show ∀ w', AskS R g n (coL cd q d) (.int .i64 x) w' → w'.rangeAt R 8 [.int .i64 cd.l.b, .int .i64 cd.l.bt, .int .u16 cd.l.j.ov, .int .u16 cd.l.j.ox, .int .u16 cd.l.j.ol, .int .i64 cd.l.j.oe, .int .i64 cd.l.j.ok, .int .u16 cd.l.j.nv, .int .u16 cd.l.j.nx, .int .u16 cd.l.j.nl, .int .i64 cd.l.j.ne, .int .i64 cd.l.j.nk, .bool cd.l.j.two, .slice q cd.l.es.length d] from fun w' h => AskS.log h)
                clear ewd
                refine tkL 0 rfl hHeld ?_
                try simp only [zA, zC, Act.put, zD, zE, zF]
                refine tkL 1 rfl hHeld ?_
                try simp only [zA, zB, zC, Act.put, zD, zE, zF]
                refine tkL 2 rfl hHeld ?_
                try simp only [zA, zB, zC, Act.put, zD, zE, zF]
                refine tkL 3 rfl hHeld ?_
                try simp only [zA, zB, zC, Act.put, zD, zE, zF]
                refine tkL 4 rfl hHeld ?_
                try simp only [zA, zB, zC, Act.put, zD, zE, zF]
                refine tkL 5 rfl hHeld ?_
                try simp only [zA, zB, zC, Act.put, zD, zE, zF]
                refine tkL 6 rfl hHeld ?_
                try simp only [zA, zB, zC, Act.put, zD, zE, zF]
                refine tkL 7 rfl hHeld ?_
                try simp only [zA, zB, zC, Act.put, zD, zE, zF]
                refine tkL 8 rfl hHeld ?_
                try simp only [zA, zB, zC, Act.put, zD, zE, zF]
                refine tkH (i := 9) (v := .agg #[.int .i64 cd.l.b, .int .i64 cd.l.bt, .int .u16 cd.l.j.ov, .int .u16 cd.l.j.ox, .int .u16 cd.l.j.ol, .int .i64 cd.l.j.oe, .int .i64 cd.l.j.ok, .int .u16 cd.l.j.nv, .int .u16 cd.l.j.nx, .int .u16 cd.l.j.nl, .int .i64 cd.l.j.ne, .int .i64 cd.l.j.nk, .bool cd.l.j.two, .slice q cd.l.es.length d]) rfl (yieldsIf_load_mid (by rfl) _ _ rfl R 8 rfl [.int .i64 cd.l.b, .int .i64 cd.l.bt, .int .u16 cd.l.j.ov, .int .u16 cd.l.j.ox, .int .u16 cd.l.j.ol, .int .i64 cd.l.j.oe, .int .i64 cd.l.j.ok, .int .u16 cd.l.j.nv, .int .u16 cd.l.j.nx, .int .u16 cd.l.j.nl, .int .i64 cd.l.j.ne, .int .i64 cd.l.j.nk, .bool cd.l.j.two, .slice q cd.l.es.length d] _ HKL.out Tryz.underlying30 rfl (by kernel_rfl)) hHeld ?_
                try simp only [zA, zB, zC, Act.put, zD, zE, zF]
                refine tkL 11 rfl hHeld ?_
                try simp only [zA, zB, zC, Act.put, zD, zE, zF]
                refine tkL 12 rfl hHeld ?_
                try simp only [zA, zB, zC, Act.put, zD, zE, zF]
                refine tkL 13 rfl hHeld ?_
                try simp only [zA, zB, zC, Act.put, zD, zE, zF]
                refine tkL 14 rfl hHeld ?_
                try simp only [zA, zB, zC, Act.put, zD, zE, zF]
                refine tkH (i := 15) (v := .agg #[.int .i64 cd.l.b, .int .i64 cd.l.bt, .int .u16 cd.l.j.ov, .int .u16 cd.l.j.ox, .int .u16 cd.l.j.ol, .int .i64 cd.l.j.oe, .int .i64 cd.l.j.ok, .int .u16 cd.l.j.nv, .int .u16 cd.l.j.nx, .int .u16 cd.l.j.nl, .int .i64 cd.l.j.ne, .int .i64 cd.l.j.nk, .bool cd.l.j.two, .slice q cd.l.es.length d]) rfl (yieldsIf_load_mid (by rfl) _ _ rfl R 8 rfl [.int .i64 cd.l.b, .int .i64 cd.l.bt, .int .u16 cd.l.j.ov, .int .u16 cd.l.j.ox, .int .u16 cd.l.j.ol, .int .i64 cd.l.j.oe, .int .i64 cd.l.j.ok, .int .u16 cd.l.j.nv, .int .u16 cd.l.j.nx, .int .u16 cd.l.j.nl, .int .i64 cd.l.j.ne, .int .i64 cd.l.j.nk, .bool cd.l.j.two, .slice q cd.l.es.length d] _ HKL.out Tryz.underlying30 rfl (by kernel_rfl)) hHeld ?_
                try simp only [zA, zB, zC, Act.put, zD, zE, zF]
                refine tkL 17 rfl hHeld ?_
                try simp only [zA, zB, zC, Act.put, zD, zE, zF]
                refine tkL 18 rfl hHeld ?_
                try simp only [zA, zB, zC, Act.put, zD, zE, zF]
                refine tkL 19 rfl hHeld ?_
                try simp only [zA, zB, zC, Act.put, zD, zE, zF]
                refine tkL 20 rfl hHeld ?_
                try simp only [zA, zB, zC, Act.put, zD, zE, zF]
                refine tkL 21 rfl hHeld ?_
                try simp only [zA, zB, zC, Act.put, zD, zE, zF]
                refine wpAnyH_ready (rs := [10]) (by kernel_rfl) (by simp) ?_; refine AllReadyH.cons rfl (fun K hK => ?_) AllReadyH.nil; (try simp only [zA, zB, zC]); go_simp
                refine (show Calls Tryz.prog 33 #[.agg #[.int .i64 cd.l.b, .int .i64 cd.l.bt, .int .u16 cd.l.j.ov, .int .u16 cd.l.j.ox, .int .u16 cd.l.j.ol, .int .i64 cd.l.j.oe, .int .i64 cd.l.j.ok, .int .u16 cd.l.j.nv, .int .u16 cd.l.j.nx, .int .u16 cd.l.j.nl, .int .i64 cd.l.j.ne, .int .i64 cd.l.j.nk, .bool cd.l.j.two, .slice q cd.l.es.length d]] wf fun r w2 => r = .returned (.int .i64 XL) ∧ Below wf.heap.size wf w2 from by have := rlast_any cd.l q d wf HF.out.lo.f.b0 HF.out.lo.f.b1 HF.out.lo.f.n; rw [HXL.out] at this; exact this).mono ?_; rintro r0 w5 ⟨rfl, bs5⟩
                have s5 := h0.trans (bs5.mono h0.size)
                have hS5 := HSF.out _ s5
                refine hK.out _ _ hS5 (fun _ => ?_)
                clear hK K hHeld bs5
                try simp only [zA, zB, zC, Act.put, zD, zE, zF]
                have hHeld := hS5
                refine wpAnyH_ready (rs := [16]) (by kernel_rfl) (by simp) ?_; refine AllReadyH.cons rfl (fun K hK => ?_) AllReadyH.nil; (try simp only [zA, zB, zC]); go_simp
                refine (show Calls Tryz.prog 34 #[.agg #[.int .i64 cd.l.b, .int .i64 cd.l.bt, .int .u16 cd.l.j.ov, .int .u16 cd.l.j.ox, .int .u16 cd.l.j.ol, .int .i64 cd.l.j.oe, .int .i64 cd.l.j.ok, .int .u16 cd.l.j.nv, .int .u16 cd.l.j.nx, .int .u16 cd.l.j.nl, .int .i64 cd.l.j.ne, .int .i64 cd.l.j.nk, .bool cd.l.j.two, .slice q cd.l.es.length d]] w5 fun r w2 => r = .returned (.int .i64 Y) ∧ Below w5.heap.size w5 w2 from by have := rlastTerm_any cd.l q d w5 HF.out.lo.f ((EnSl.of_own HA6.out.en).keep s5 (Nat.le_refl _)); rw [HYL.out] at this; exact this).mono ?_; rintro r0 w6 ⟨rfl, bs6⟩
                have s6 := s5.trans (bs6.mono s5.size)
                have hS6 := HSF.out _ s6
                refine hK.out _ _ hS6 (fun _ => ?_)
                clear hK K hHeld bs6
                try simp only [zA, zB, zC, Act.put, zD, zE, zF]
                have hHeld := hS6
                refine tkH (i := 22) (v := .agg #[.int .i64 1, .int .i64 0, .int .i64 0, .int .i64 0, .int .i64 XL, .int .i64 Y, .int .i64 cd.cm, .int .i64 0, .bool false, .slice none 0 0, .string ⟨#[]⟩, .int .u16 0, .int .u16 0, .int .u16 0, .int .i64 0, .int .i64 0, .int .u16 0, .int .u16 0, .int .u16 0, .int .i64 0, .int .i64 0, .bool false]) rfl (Or.inl ⟨by rfl, fun w' _ => by kernel_rfl⟩) hHeld ?_
                try simp only [zA, zB, zC, Act.put, zD, zE, zF]
                refine wpAnyH_ready (rs := [23]) (by kernel_rfl) (by simp) ?_; refine AllReadyH.cons rfl (fun K hK => ?_) AllReadyH.nil; (try simp only [zA, zB, zC]); go_simp
                have hA6' := HA6.out.keep s6
                refine (show Calls Tryz.prog 49 #[.pointer (some ⟨R, 0, none⟩), .int .i64 x, .agg #[.int .i64 1, .int .i64 0, .int .i64 0, .int .i64 0, .int .i64 XL, .int .i64 Y, .int .i64 cd.cm, .int .i64 0, .bool false, .slice none 0 0, .string ⟨#[]⟩, .int .u16 0, .int .u16 0, .int .u16 0, .int .i64 0, .int .i64 0, .int .u16 0, .int .u16 0, .int .u16 0, .int .i64 0, .int .i64 0, .bool false]] w6 fun e w' => e = .returned (.tuple #[]) ∧ ∃ v2, AcW 76 W.heap.size w' R ⟨cd, q, d⟩ v2 (l' ++ [⟨putM cd x { ms0 with k := 1, ix := XL, lt := Y, cm := cd.cm }, none, 0⟩]) ∧ AcR w6 w' R v' v2 from rsend_act W.heap.size R cd q d v' l' x { ms0 with k := 1, ix := XL, lt := Y, cm := cd.cm } none 0 w6 hA6' (MsOwn.none rfl) (fun b hb => by cases hb) (by have := HL2.out; omega)).mono ?_; rintro r0 w7 ⟨rfl, v2, hA7, hr7⟩
                have hr67 := (AcR.below (R := R) (v := v') (H0.out.trans (s6.mono H0.out.size))).trans hr7
                have hS7 : AskS R g n (coL cd q d) (.int .i64 x) w7 := AskS.of hA7 (by
                  have hgk := HGK.out
                  rw [World.cell?_of_block (hr67.oth g hgk.1 hgk.2.1 hgk.2.2).1]
                  exact HCELL.out wk (Below.refl _ _))
                refine hK.out _ _ hS7 (fun _ => ?_)
                clear hK K hHeld hS0 hS5 hS6 h0
                try simp only [zA, zB, zC, Act.put, zD, zE, zF]
                refine wpAnyH_done (by kernel_rfl) ?_ _
                have HS2 : Hid (∃ v' l', l'.map MsX.m = ((O.take (n + 1)).filter fun n => decide (n ≠ cd.id)).map (fun n => putM cd n { ms0 with k := 1, ix := XL, lt := Y, cm := cd.cm }) ∧ l'.length ≤ n + 1 ∧ AcW 76 W.heap.size w7 R ⟨cd, q, d⟩ v' l' ∧ AcR W w7 R (.slice none 0 0) v' ∧ wl.heap.size ≤ w7.heap.size ∧ ∀ g, w4.heap.size ≤ g → g < wl.heap.size → w7.heap[g]? = wl.heap[g]? ∧ v'.ownBlock ≠ some g) :=
                  ⟨v2, _, by rw [HTK.out, if_neg HE.out, List.map_append, List.map_append, HL1.out]; rfl, by rw [List.length_append, List.length_singleton]; have := HL2.out; omega, hA7, HR1.out.trans hr67, HKP.out v2 w7 hr67⟩
                clear hA7 hr7 hr67 hS7 s5 s6 kc k6 hA6'
                go_wp2_with fail
                go_roundw
                case rel => exact ⟨n + 1, by omega, by go_num, HS2⟩
                case measure => simp [intOf]; omega
            · obtain rfl : n = O.length := by omega
              have hd : decide ((O.length : Int) < (O.length : Int)) = false := by simp
              obtain ⟨v9, l9, hl1, -, hA, hr9, -, -⟩ := HS.out
              rw [List.take_of_length_le (Nat.le_refl _), ← HAL.out] at hl1
              obtain ⟨q9, d9, hq9, hd9⟩ : ∃ q9 d9, q9 = q ∧ d9 = d := ⟨_, _, rfl, rfl⟩
              have hl9 : l9.map MsX.m = A.out := by rw [HZ2.out]; exact hl1
              have hA9 : AcW 76 W.heap.size wk R ⟨A.c, q9, d9⟩ v9 l9 := by rw [HZ2.out, hq9, hd9]; exact hA
              clear hl1 hA HS hq9 hd9
              obtain ⟨c9, hc9⟩ : ∃ c9, A.c = c9 := ⟨_, rfl⟩
              rw [hc9] at hA9
              have HL9 := Lib.hid hl9; have HA9 := Lib.hid hA9; have HC9 := Lib.hid hc9
              have hz9 := hr9.blk HZ.out (fun e => hRZ e.symm) (fun e => by cases e)
              have HZ9 := Lib.hid hz9.1; have HV9 := Lib.hid hz9.2
              have HB9 := Lib.hid (show Below w.heap.size w wk from HBW.out.trans ((hr9.base hRW (fun b e => by cases e) (Nat.le_refl _)).mono HBW.out.size))
              clear hl9 hA9 hr9 hc9 hz9
              go_upto_region 24 with fail
              have hAe := HA9.out.keep (Below.refl _ _).drew
              have hZe : wk.drew.heap[Z]? = some (.cells (coL co0 none 0).toArray 33 (0, 0)) := HZ9.out
              have hte := there_of_block (o := 0) (n := 45) hZe (Nat.le_of_ble_eq_true rfl)
              have hSe : RAll R ((coL c9 q9 d9) ++ [v9]).toArray wk.drew := RAll.of (w := wk.drew) hAe.blk
              refine wp_region_held_drew (S := RAll R ((coL c9 q9 d9) ++ [v9]).toArray) (by kernel_rfl) hSe (fun hHeld => ?_)
              have HBe := Lib.hid (HB9.out.drew)
              obtain ⟨we, ewe⟩ : ∃ x, wk.drew = x := ⟨_, rfl⟩
              rewrite [ewe] at hHeld hAe hZe hte hSe HBe ⊢
              have HAe := Lib.hid hAe; have HZe := Lib.hid hZe; have HTe := Lib.hid hte
              have k45 : ∀ w', RAll R ((coL c9 q9 d9) ++ [v9]).toArray w' → w'.cell? ⟨R, 45, none⟩ = some v9 := fun w' h => h.r 45
              have s2e : RAll R ((coL c9 q9 d9) ++ [v9]).toArray (we.setCells Z 0 (coL c9 q9 d9)) := ⟨fun j => by
                have hg := (block_setCells (coL c9 q9 d9) 0 HZe.out).2
                exact block_cells ((hg.block R HAe.out.lt (fun e => hRZ (by simpa using e))).trans HAe.out.blk) j⟩
              clear ewe hAe hZe hte hSe
              refine tkL 0 rfl hHeld ?_
              try simp only [zA, zC, Act.put, zD, zE, zF]
              refine tkL 1 rfl hHeld ?_
              try simp only [zA, zB, zC, Act.put, zD, zE, zF]
              refine tkL 2 rfl hHeld ?_
              try simp only [zA, zB, zC, Act.put, zD, zE, zF]
              refine tkH (i := 3) (v := .agg (coL c9 q9 d9).toArray) rfl (yieldsIf_load_mid (by rfl) _ _ rfl R 0 rfl (coL c9 q9 d9) _ (fun w' h => act_range h) Tryz.underlying33 rfl (by kernel_rfl)) hHeld ?_
              try simp only [zA, zB, zC, Act.put, zD, zE, zF]
              refine tkL 4 rfl hHeld ?_
              try simp only [zA, zB, zC, Act.put, zD, zE, zF]
              refine tkL 5 rfl hHeld ?_
              try simp only [zA, zB, zC, Act.put, zD, zE, zF]
              refine tkL 6 rfl hHeld ?_
              try simp only [zA, zB, zC, Act.put, zD, zE, zF]
              refine tkL 7 rfl hHeld ?_
              try simp only [zA, zB, zC, Act.put, zD, zE, zF]
              refine wpAnyH_ready (rs := [8]) (by kernel_rfl) (by simp) ?_; refine AllReadyH.cons rfl (fun K hK => ?_) AllReadyH.nil
              rw [if_pos (by rfl)]
              refine wp_store_mid _ _ _ (by rfl) Z 0 (coL c9 q9 d9).toArray (by rfl) (by rfl) HTe.out (by kernel_rfl) (one_all rfl) ?_
              refine hK.out _ _ s2e (fun _ => ?_)
              clear hK K hHeld k45
              try simp only [zA, zB, zC, Act.put]
              have hHeld := s2e
              refine tkL 9 rfl hHeld ?_
              try simp only [zA, zB, zC, Act.put, zD, zE, zF]
              refine wpAnyH_done (by kernel_rfl) ?_ _
              clear hHeld s2e
              go_wp2_with fail
              have hZf : (we.setCells Z 0 (coL c9 q9 d9)).heap[Z]? = some (.cells (coL c9 q9 d9).toArray 33 (0, 0)) := setCells_full (n := 45) (vs := (coL c9 q9 d9).toArray) HZe.out rfl rfl
              refine bodyPost_ret (v := .tuple #[.agg (coL c9 q9 d9).toArray, v9]) ?_ rfl ?_
              · rw [results_cell_tmp rfl]
                simp [asAddr, run_loadVar_row _ Z _ _ _ _ _ hZf Tryz.underlying33 rfl (by kernel_rfl), Result.andThen]
              · exact co_end HAe.out HZe.out hRZ HV9.out (by have := HWS.out; have := HEZ.out; have := HEX.out; omega) HBe.out (by have := HEZ.out; have := HEX.out; omega) HC9.out.symm HL9.out
end Go.Proofs.YtbnndbdnejfehaaGreatDoor
