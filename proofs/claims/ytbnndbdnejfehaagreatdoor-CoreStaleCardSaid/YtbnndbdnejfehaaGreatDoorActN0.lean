import Derived.Test.YtbnndbdnejfehaaGreatDoorActE
import Derived.Test.YtbnndbdnejfehaaGreatDoorRef13A
import Derived.Test.YtbnndbdnejfehaaGreatDoorRef10d
import Derived.Test.YtbnndbdnejfehaaGreatDoorPlainConf2
import Derived.Test.YtbnndbdnejfehaaGreatDoorPlainBack9
import Derived.Test.YtbnndbdnejfehaaGreatDoorActD
import Derived.Test.YtbnndbdnejfehaaGreatDoorSets
/- Core: methods of a run (the reference's): all others are sent what they lack. -/
namespace Go.Proofs.YtbnndbdnejfehaaGreatDoor
open Go.ChangeShapes Go.WideShapes Go.ChangeAt Go.RowKit

end Go.Proofs.YtbnndbdnejfehaaGreatDoor
/- Core: methods of an act: whether anybody hears a leader; how long a node is patient. -/
namespace Go.Proofs.YtbnndbdnejfehaaGreatDoor
open Go.ChangeShapes Go.WideShapes Go.ChangeAt Go.RowKit

set_option maxRecDepth 100000 in
set_option maxHeartbeats 8000000 in
theorem patience_any (id : Int) (w : World) (h0 : 0 ≤ id) (h1 : id ≤ 1000000) :
    Calls Tryz.prog 23 #[.int .i64 id] w fun e w' => e = .returned (.int .i64 (patience id)) ∧ w = w' := by
  have HP : Hid (12 + 4 * id = patience id) := rfl
  go_enter Tryz.func23, Tryz.ntmps23
  go_wp2_with fail
  go_ret
  rw [← HP.out]
  exact ⟨rfl, rfl⟩
set_option maxRecDepth 100000 in
set_option maxHeartbeats 8000000 in
theorem looks_act (B R : Nat) (c : Co) (p : Option Addr) (k : Nat) (v : Value) (l : List MsX) (w : World) (h : AcW 69 B w R ⟨c, p, k⟩ v l) (hF : LgFit c.l) :
    Calls Tryz.prog 67 #[.pointer (some ⟨R, 0, none⟩)] w fun e w' => e = .returned (.tuple #[]) ∧ AcW 69 B w' R ⟨looksC c, p, k⟩ v l ∧ AcR w w' R v v := by
  obtain ⟨J, hJ⟩ : ∃ J, confL c.l = J := ⟨_, rfl⟩
  obtain ⟨G, hG⟩ : ∃ G, commitsN J (withS c.hd c.id) = G := ⟨_, rfl⟩
  have hLC : looksC c = if G = true then { c with hd := 0, wt := 0 } else yieldsC c := by unfold looksC; rw [hJ, hG]
  have HLC := Lib.hid hLC
  have HA := Lib.hid h; have HF : Hid (LgFit c.l) := hF; have HJ := Lib.hid hJ; have HG := Lib.hid hG
  clear h hF hJ hG hLC
  go_enter Tryz.func67, Tryz.ntmps67
  go_upto_region 0 with fail
  have h0 : Below w.heap.size w w.drew := (Below.refl _ _).drew
  refine wp_region_held_drew (S := fun w' => Below w.heap.size w w') (by kernel_rfl) h0 (fun hHeld => ?_)
  obtain ⟨wd, ewd⟩ : ∃ x, w.drew = x := ⟨_, rfl⟩
  rewrite [ewd] at h0 hHeld ⊢
  have k0 : ∀ w', Below w.heap.size w w' → w'.cell? ⟨R, 0, none⟩ = some (.int .i64 c.id) := fun w' h => block_cells (below_block h HA.out.lt HA.out.blk) 0
  have k24 : ∀ w', Below w.heap.size w w' → w'.cell? ⟨R, 24, none⟩ = some (.int .u16 c.hd) := fun w' h => block_cells (below_block h HA.out.lt HA.out.blk) 24
  clear ewd
  refine tkH (i := 0) (v := ?_) rfl (Or.inl ⟨by rfl, ?_⟩) hHeld ?_
  rotate_left
  · (intro wz hSw; (try dsimp only at hSw); (try simp only [zA, zC]); go_simp; try with_reducible rfl)
  try simp only [zA, zC, Act.put, zD, zE, zF]
  refine tkH (i := 2) (v := ?_) rfl (Or.inl ⟨by rfl, ?_⟩) hHeld ?_
  rotate_left
  · (intro wz hSw; (try dsimp only at hSw); (try simp only [zA, zB, zC]); go_simp; try with_reducible rfl)
  try simp only [zA, zB, zC, Act.put, zD, zE, zF]
  refine tkH (i := 3) (v := ?_) rfl (Or.inl ⟨by rfl, ?_⟩) hHeld ?_
  rotate_left
  · (intro wz hSw; (try dsimp only at hSw); (try simp only [zA, zB, zC]); go_simp; try with_reducible rfl)
  try simp only [zA, zB, zC, Act.put, zD, zE, zF]
  refine tkH (i := 4) (v := ?_) rfl (Or.inl ⟨by rfl, ?_⟩) hHeld ?_
  rotate_left
  · (intro wz hSw; (try dsimp only at hSw); (try simp only [zA, zB, zC]); go_simp; try with_reducible rfl)
  try simp only [zA, zB, zC, Act.put, zD, zE, zF]
  refine tkH (i := 5) (v := ?_) rfl (Or.inl ⟨by rfl, ?_⟩) hHeld ?_
  rotate_left
  · (intro wz hSw; (try dsimp only at hSw); (try simp only [zA, zB, zC]); go_simp; try with_reducible rfl)
  try simp only [zA, zB, zC, Act.put, zD, zE, zF]
  refine tkH (i := 6) (v := ?_) rfl (Or.inl ⟨by rfl, ?_⟩) hHeld ?_
  rotate_left
  · (intro wz hSw; (try dsimp only at hSw); (try simp only [zA, zB, zC]); go_simp; try with_reducible rfl)
  try simp only [zA, zB, zC, Act.put, zD, zE, zF]
  refine tkH (i := 7) (v := ?_) rfl (Or.inl ⟨by rfl, ?_⟩) hHeld ?_
  rotate_left
  · (intro wz hSw; (try dsimp only at hSw); (try simp only [zA, zB, zC]); go_simp; try with_reducible rfl)
  try simp only [zA, zB, zC, Act.put, zD, zE, zF]
  refine tkH (i := 8) (v := ?_) rfl (Or.inl ⟨by rfl, ?_⟩) hHeld ?_
  rotate_left
  · (intro wz hSw; (try dsimp only at hSw); (try simp only [zA, zB, zC]); go_simp; try with_reducible rfl)
  try simp only [zA, zB, zC, Act.put, zD, zE, zF]
  refine tkH (i := 9) (v := ?_) rfl (Or.inl ⟨by rfl, ?_⟩) hHeld ?_
  rotate_left
  · (intro wz hSw; (try dsimp only at hSw); (try simp only [zA, zB, zC]); go_simp; try with_reducible rfl)
  try simp only [zA, zB, zC, Act.put, zD, zE, zF]
  refine tkH (i := 10) (v := ?_) rfl (Or.inl ⟨by rfl, ?_⟩) hHeld ?_
  rotate_left
  · (intro wz hSw; (try dsimp only at hSw); (try simp only [zA, zB, zC]); go_simp; try with_reducible rfl)
  try simp only [zA, zB, zC, Act.put, zD, zE, zF]
  refine tkH (i := 11) (v := ?_) rfl (Or.inl ⟨by rfl, ?_⟩) hHeld ?_
  rotate_left
  · (intro wz hSw; (try dsimp only at hSw); (try simp only [zA, zB, zC]); go_simp; try with_reducible rfl)
  try simp only [zA, zB, zC, Act.put, zD, zE, zF]
  refine wpAnyH_ready (rs := [1]) (by kernel_rfl) (by simp) ?_; refine AllReadyH.cons rfl (fun K hK => ?_) AllReadyH.nil; (try simp only [zA, zB, zC]); go_simp
  refine (show Calls Tryz.prog 42 #[.pointer (some ⟨R, 0, none⟩)] wd fun e w' => e = .returned (.agg #[.int .u16 J.ov, .int .u16 J.ox, .int .u16 J.ol, .int .i64 J.oe, .int .i64 J.ok, .int .u16 J.nv, .int .u16 J.nx, .int .u16 J.nl, .int .i64 J.ne, .int .i64 J.nk, .bool J.two]) ∧ Below wd.heap.size wd w' from by have := joint_act R c p k v wd (below_block h0 HA.out.lt HA.out.blk) HF.out ((EnSl.of_own HA.out.en).keep h0 (Nat.le_refl _)); rw [HJ.out] at this; exact this).mono ?_; rintro r0 w1 ⟨rfl, b1⟩
  have s1 := h0.trans (b1.mono h0.size)
  refine hK.out _ _ s1 (fun _ => ?_)
  clear hK K hHeld b1
  try simp only [zA, zB, zC, Act.put, zD, zE, zF]
  have hHeld := s1
  refine wpAnyH_ready (rs := [12]) (by kernel_rfl) (by simp) ?_; refine AllReadyH.cons rfl (fun K hK => ?_) AllReadyH.nil; (try simp only [zA, zB, zC]); go_simp
  refine (show Calls Tryz.prog 40 #[.int .u16 c.hd, .int .i64 c.id] w1 fun e w' => e = .returned (.int .u16 (withS c.hd c.id)) ∧ w1 = w' from with_any _ _ w1).mono ?_; rintro r0 w3 ⟨rfl, rfl⟩
  refine hK.out _ _ s1 (fun _ => ?_)
  clear hK K hHeld
  try simp only [zA, zB, zC, Act.put, zD, zE, zF]
  have hHeld := s1
  refine wpAnyH_ready (rs := [13]) (by kernel_rfl) (by simp) ?_; refine AllReadyH.cons rfl (fun K hK => ?_) AllReadyH.nil; (try simp only [zA, zB, zC]); go_simp
  refine (show Calls Tryz.prog 116 #[.agg #[.int .u16 J.ov, .int .u16 J.ox, .int .u16 J.ol, .int .i64 J.oe, .int .i64 J.ok, .int .u16 J.nv, .int .u16 J.nx, .int .u16 J.nl, .int .i64 J.ne, .int .i64 J.nk, .bool J.two], .int .u16 (withS c.hd c.id)] w1 fun e w' => e = .returned (.bool G) ∧ Below w1.heap.size w1 w' from by have := confCommits_any J.ov J.ox J.ol J.oe J.ok J.nv J.nx J.nl J.ne J.nk (withS c.hd c.id) J.two w1; rw [show commitsJ J.ov J.ox J.ol J.oe J.ok J.nv J.nx J.nl J.ne J.nk J.two (withS c.hd c.id) = G from HG.out] at this; exact this).mono ?_; rintro r0 w2 ⟨rfl, b2⟩
  have s2 := s1.trans (b2.mono s1.size)
  refine hK.out _ _ s2 (fun _ => ?_)
  clear hK K hHeld b2
  try simp only [zA, zB, zC, Act.put, zD, zE, zF]
  have hHeld := s2
  refine tkH (i := 14) (v := ?_) rfl (Or.inl ⟨by rfl, ?_⟩) hHeld ?_
  rotate_left
  · (intro wz hSw; (try dsimp only at hSw); (try simp only [zA, zB, zC]); go_simp; try with_reducible rfl)
  try simp only [zA, zB, zC, Act.put, zD, zE, zF]
  refine wpAnyH_done (by kernel_rfl) ?_ _
  have HA2 := Lib.hid (HA.out.keep s2); have HB2 := Lib.hid (AcR.below (R := R) (v := v) s2)
  clear hHeld s2 s1 h0 k0 k24
  cases G with
  | false =>
    have HY := Lib.hid (yields_act B R c p k v l w2 HA2.out)
    have HLF : Hid (looksC c = yieldsC c) := by show _ = _; rw [HLC.out]; rfl
    go_wp2_with fail
    refine HY.out.mono ?_; rintro r w4 ⟨rfl, hA4, hr4⟩
    have HO := Lib.hid (And.intro hA4 (HB2.out.trans hr4))
    clear hA4 hr4 HY
    go_wp2_with fail
    refine bodyPost_ret (results_none rfl _ _ _) rfl ?_
    rw [HLF.out]
    exact ⟨rfl, HO.out.1, HO.out.2⟩
  | true =>
    have HLF : Hid (looksC c = { c with hd := 0, wt := 0 }) := by show _ = _; rw [HLC.out]; rfl
    have hp1 := HA2.out.put 24 (.int .u16 0) (by decide) ⟨{ c with hd := 0 }, p, k⟩ rfl rfl rfl rfl
    have hp2 := hp1.1.put 5 (.int .i64 0) (by decide) ⟨{ c with hd := 0, wt := 0 }, p, k⟩ rfl rfl rfl rfl
    have HP := Lib.hid (And.intro hp2.1 ((HB2.out.trans hp1.2).trans hp2.2))
    have k24 : w2.cell? ⟨R, 24, none⟩ = some (.int .u16 c.hd) := block_cells HA2.out.blk 24
    have f24 : w2.frozen? ⟨R, 24, none⟩ = false := block_free HA2.out.blk 24
    have k5 : (w2.setCell ⟨R, 24, none⟩ (.int .u16 0)).cell? ⟨R, 5, none⟩ = some (.int .i64 c.wt) := block_cells hp1.1.blk 5
    have f5 : (w2.setCell ⟨R, 24, none⟩ (.int .u16 0)).frozen? ⟨R, 5, none⟩ = false := block_free hp1.1.blk 5
    clear hp1 hp2
    go_wp2_with fail
    go_end0
    rw [HLF.out]
    exact ⟨rfl, HP.out.1, HP.out.2⟩
end Go.Proofs.YtbnndbdnejfehaaGreatDoor
/- Core: methods of an act: the number of the entry that the configuration in force stands in. -/
namespace Go.Proofs.YtbnndbdnejfehaaGreatDoor
open Go.ChangeShapes Go.WideShapes Go.ChangeAt Go.RowKit

/-- The last entry of a configuration's kind among the first k: its number; 0: there is none. -/
def stoodK (l : Lg) : Nat → Int
  | 0 => 0
  | k + 1 => if (l.es.getD k ent0).k = 2 then l.b + 1 + k else stoodK l k
theorem stoodK_gt {l : Lg} {v : Int} (h0 : 0 ≤ l.b) (hv : l.b ≤ v) : ∀ k : Nat, v < stoodK l k ↔ v < (confA l k).2
  | 0 => by
    show v < 0 ↔ v < l.b
    omega
  | k + 1 => by
    unfold stoodK confA
    split
    · exact Iff.rfl
    · exact stoodK_gt h0 hv k
set_option maxRecDepth 100000 in
set_option maxHeartbeats 8000000 in
theorem stood_act (R : Nat) (c : Co) (p : Option Addr) (k : Nat) (v : Value) (w : World) (hR : w.heap[R]? = some (.cells #[.int .i64 c.id, .int .i64 c.role, .int .i64 c.tm, .int .i64 c.vt, .int .i64 c.ld, .int .i64 c.wt, .int .i64 c.cm, .int .i64 c.sf, .int .i64 c.l.b, .int .i64 c.l.bt, .int .u16 c.l.j.ov, .int .u16 c.l.j.ox, .int .u16 c.l.j.ol, .int .i64 c.l.j.oe, .int .i64 c.l.j.ok, .int .u16 c.l.j.nv, .int .u16 c.l.j.nx, .int .u16 c.l.j.nl, .int .i64 c.l.j.ne, .int .i64 c.l.j.nk, .bool c.l.j.two, .slice p c.l.es.length k, .string c.sn, .int .u16 c.vs, .int .u16 c.hd, .int .i64 (c.nx 0), .int .i64 (c.nx 1), .int .i64 (c.nx 2), .int .i64 (c.nx 3), .int .i64 (c.nx 4), .int .i64 (c.nx 5), .int .i64 (c.nx 6), .int .i64 (c.nx 7), .int .i64 (c.nx 8), .int .i64 (c.nx 9), .int .i64 (c.mt 0), .int .i64 (c.mt 1), .int .i64 (c.mt 2), .int .i64 (c.mt 3), .int .i64 (c.mt 4), .int .i64 (c.mt 5), .int .i64 (c.mt 6), .int .i64 (c.mt 7), .int .i64 (c.mt 8), .int .i64 (c.mt 9), v] 69 (0, 0))) (hF : LgFit c.l) (hE : EnSl w (.slice p c.l.es.length k) c.l.es) :
    Calls Tryz.prog 126 #[.pointer (some ⟨R, 0, none⟩)] w fun e w' => e = .returned (.int .i64 (stoodK c.l c.l.es.length)) ∧ Below w.heap.size w w' := by
  have HR := Lib.hid (show ∀ w', Below w.heap.size w w' → w'.heap[R]? = some (.cells #[.int .i64 c.id, .int .i64 c.role, .int .i64 c.tm, .int .i64 c.vt, .int .i64 c.ld, .int .i64 c.wt, .int .i64 c.cm, .int .i64 c.sf, .int .i64 c.l.b, .int .i64 c.l.bt, .int .u16 c.l.j.ov, .int .u16 c.l.j.ox, .int .u16 c.l.j.ol, .int .i64 c.l.j.oe, .int .i64 c.l.j.ok, .int .u16 c.l.j.nv, .int .u16 c.l.j.nx, .int .u16 c.l.j.nl, .int .i64 c.l.j.ne, .int .i64 c.l.j.nk, .bool c.l.j.two, .slice p c.l.es.length k, .string c.sn, .int .u16 c.vs, .int .u16 c.hd, .int .i64 (c.nx 0), .int .i64 (c.nx 1), .int .i64 (c.nx 2), .int .i64 (c.nx 3), .int .i64 (c.nx 4), .int .i64 (c.nx 5), .int .i64 (c.nx 6), .int .i64 (c.nx 7), .int .i64 (c.nx 8), .int .i64 (c.nx 9), .int .i64 (c.mt 0), .int .i64 (c.mt 1), .int .i64 (c.mt 2), .int .i64 (c.mt 3), .int .i64 (c.mt 4), .int .i64 (c.mt 5), .int .i64 (c.mt 6), .int .i64 (c.mt 7), .int .i64 (c.mt 8), .int .i64 (c.mt 9), v] 69 (0, 0)) from fun w' h => below_block h (block_lt hR) hR)
  have HE := Lib.hid hE; have HF : Hid (LgFit c.l) := hF
  have kR := block_cells hR
  have HCL := Lib.hid (show Calls Tryz.prog 64 #[.agg #[.int .i64 c.l.b, .int .i64 c.l.bt, .int .u16 c.l.j.ov, .int .u16 c.l.j.ox, .int .u16 c.l.j.ol, .int .i64 c.l.j.oe, .int .i64 c.l.j.ok, .int .u16 c.l.j.nv, .int .u16 c.l.j.nx, .int .u16 c.l.j.nl, .int .i64 c.l.j.ne, .int .i64 c.l.j.nk, .bool c.l.j.two, .slice p c.l.es.length k]] w fun r w2 => r = .returned (.int .i64 (c.l.b + (c.l.es.length : Int))) ∧ Below w.heap.size w w2 from last_any c.l p k w hF.b0 hF.b1 hF.n)
  have hb0 := hF.b0; have hb1 := hF.b1; have hn2 := hF.n
  obtain ⟨S, hS⟩ : ∃ S, stoodK c.l c.l.es.length = S := ⟨_, rfl⟩
  rw [hS]
  have HS := Lib.hid hS
  clear hR hE hF hS
  go_enter Tryz.func126, Tryz.ntmps126
  go_wp2_with fail
  refine HCL.out.mono ?_; rintro r w1 ⟨rfl, b1⟩
  have HB1 := Lib.hid b1
  clear b1 HCL kR
  go_wp2_with fail
  go_loopw [3] (fun i wr => ∃ n : Nat, n ≤ c.l.es.length ∧ i = .int .i64 (c.l.b + (n : Int)) ∧ Hid (stoodK c.l n = S) ∧ Hid (Below w.heap.size w wr)) (fun i _ => (intOf i).toNat)
  case atStart => exact ⟨c.l.es.length, Nat.le_refl _, rfl, HS, HB1⟩
  case round =>
    obtain ⟨n, hn, rfl, HK, HB⟩ := hrel
    obtain ⟨wk, rfl⟩ : ∃ wk : World, wk = wr := ⟨_, rfl⟩
    have kR := block_cells (HR.out wk HB.out)
    cases n with
    | zero =>
      have hd : decide (c.l.b < c.l.b + ((0 : Nat) : Int)) = false := by simp
      have HZ : Hid ((0 : Int) = S) := by show _ = _; rw [← HK.out]; rfl
      go_wp2_with fail
      go_ret
      rw [← HZ.out]
      exact ⟨rfl, HB.out⟩
    | succ j =>
      have hd : decide (c.l.b < c.l.b + ((j : Int) + 1)) = true := by simp; omega
      obtain ⟨e, he⟩ : ∃ e, c.l.es[j]'(by omega) = e := ⟨_, rfl⟩
      have hat : atL c.l (c.l.b + ((j : Int) + 1)) = (e, true) := by rw [atL_in (k := j) (by omega) (by omega), he]
      have hgd : c.l.es.getD j ent0 = e := by rw [← he]; simp [List.getD, List.getElem?_eq_getElem (show j < c.l.es.length by omega)]
      have HC := Lib.hid (at_any c.l p k (c.l.b + ((j : Int) + 1)) wk hb0 hb1 hn2 (by omega) (by omega) (HE.out.keep HB.out (Nat.le_refl _)) hat)
      have HG := Lib.hid hgd
      rw [show ((j + 1 : Nat) : Int) = (j : Int) + 1 by omega]
      clear he hat hgd
      go_wp2_with fail
      refine HC.out.mono ?_; rintro r w2 ⟨rfl, b2⟩
      have HB2 := Lib.hid (HB.out.trans (b2.mono HB.out.size))
      have HB3 := Lib.hid ((HB.out.trans (b2.mono HB.out.size)).alloc (HB.out.trans (b2.mono HB.out.size)).size (.cells #[.int .i64 e.t, .int .i64 e.k, .string e.d, .int .u16 e.j.ov, .int .u16 e.j.ox, .int .u16 e.j.ol, .int .i64 e.j.oe, .int .i64 e.j.ok, .int .u16 e.j.nv, .int .u16 e.j.nx, .int .u16 e.j.nl, .int .i64 e.j.ne, .int .i64 e.j.nk, .bool e.j.two] 47))
      clear b2 HC kR
      by_cases h2 : e.k = 2
      · have hd2 : (e.k == 2) = true := by simp [h2]
        have HZ : Hid (c.l.b + ((j : Int) + 1) = S) := by show _ = _; rw [← HK.out, stoodK, HG.out, if_pos h2]; omega
        clear h2
        go_wp2_with fail
        go_ret
        rw [← HZ.out]
        exact ⟨rfl, HB3.out⟩
      · have hd2 : (e.k == 2) = false := by simp [h2]
        have HZ : Hid (stoodK c.l j = S) := by show _ = _; rw [← HK.out, stoodK, HG.out, if_neg h2]
        clear h2
        go_wp2_with fail
        go_roundw
        case rel => exact ⟨j, by omega, by go_num, HZ, HB3⟩
        case measure => simp [intOf]; omega
end Go.Proofs.YtbnndbdnejfehaaGreatDoor
/- Core: what a core must be for its methods to be walked; joints by name. -/
namespace Go.Proofs.YtbnndbdnejfehaaGreatDoor
open Go.ChangeShapes Go.WideShapes Go.ChangeAt Go.RowKit

/-- A joint that may be, of typed cells. -/
structure JnO (j : Jn) : Prop where
  m : jnM j = true
  f : JoF (joX j)
/-- A log of typed cells whose configurations may be. -/
structure LgO (l : Lg) : Prop where
  f : LgFit l
  j : JnO l.j
  es : ∀ e ∈ l.es, JoF (joX e.j) ∧ enM e = true
theorem jnF0 : JoF (joX jn0) := by
  constructor <;> constructor <;> first | (unfold In16 joX jn0; decide) | (unfold In64 joX jn0; decide)
theorem confF_ok {j : Jn} {es : List Ent} (hj : JnO j) (h : ∀ e ∈ es, JoF (joX e.j) ∧ enM e = true) : JnO (confF j es) := by
  induction es generalizing j with
  | nil => exact hj
  | cons x t ih =>
    have h1 : confF j (x :: t) = confF (if x.k = 2 then x.j else j) t := rfl
    rw [h1]
    obtain ⟨hx, hm⟩ := h x (by simp)
    refine ih ?_ (fun e he => h e (by simp [he]))
    split
    · rename_i hk; exact ⟨by rw [← enM_conf hk]; exact hm, hx⟩
    · exact hj
theorem LgO.conf {l : Lg} (h : LgO l) : JnO (confL l) := confF_ok h.j h.es
theorem LgO.push {l : Lg} {e : Ent} (h : LgO l) (hl : l.es.length < 1000000) (he : JoF (joX e.j) ∧ enM e = true) : LgO (pushL l e) :=
  ⟨push_fit h.f hl, h.j, fun x hx => by
    unfold pushL at hx
    rcases List.mem_append.1 hx with hx | hx
    · exact h.es x hx
    · rw [List.mem_singleton] at hx; rw [hx]; exact he⟩
theorem final_ok {j : Jn} (h : JnO j) : JnO (finalN j) := by
  unfold finalN
  split
  · rename_i h2
    refine ⟨?_, ⟨h.f.2, jnF0.2⟩⟩
    have hm := h.m
    unfold jnM mayJ at hm ⊢
    rw [if_pos h2] at hm
    simp only [Bool.and_eq_true] at hm
    show (mayC j.nv j.nx j.nl j.ne j.nk && _) = true
    rw [hm.2]; rfl
  · exact h
theorem final_one (j : Jn) : (finalN j).two = false := by
  unfold finalN
  split
  · rfl
  · rename_i h; simpa using h
/-- What a core must be. -/
structure CoFit (N : Nat) (c : Co) : Prop where
  lo : LgO c.l
  n : c.l.es.length ≤ N
  id0 : 1 ≤ c.id
  id1 : c.id ≤ 9
  nx : ∀ n, n < 10 → 0 ≤ c.nx n ∧ c.nx n ≤ 4611686018427387904
  mt : ∀ n, n < 10 → 0 ≤ c.mt n ∧ c.mt n ≤ c.l.last
  cm0 : c.l.b ≤ c.cm
  cm1 : c.cm ≤ c.l.last
theorem CoFit.mono {N M : Nat} {c : Co} (h : CoFit N c) (hm : N ≤ M) : CoFit M c := ⟨h.lo, Nat.le_trans h.n hm, h.id0, h.id1, h.nx, h.mt, h.cm0, h.cm1⟩
theorem upd_self (f : Nat → Int) (n : Nat) (v : Int) : upd f n v n = v := by unfold upd; rw [if_pos rfl]
theorem CoFit.push {N : Nat} {c : Co} {e : Ent} (h : CoFit N c) (hN : N < 1000000) (he : JoF (joX e.j) ∧ enM e = true) : CoFit (N + 1) (pushC c e) := by
  have hl : (pushC c e).l.last = c.l.last + 1 := push_last _ _
  refine ⟨h.lo.push (e := { e with t := c.tm }) (by have := h.n; omega) ⟨he.1, by have := he.2; unfold enM at this ⊢; exact this⟩, ?_, h.id0, h.id1, h.nx, ?_, h.cm0, ?_⟩
  · show (c.l.es ++ [_]).length ≤ _
    rw [List.length_append, List.length_singleton]; have := h.n; omega
  · intro n hn
    rw [hl]
    show 0 ≤ upd c.mt c.id.toNat (c.l.last + 1) n ∧ upd c.mt c.id.toNat (c.l.last + 1) n ≤ _
    have h0 : 0 ≤ c.l.last := by have := (h.mt n hn); omega
    unfold upd
    split
    · omega
    · have := h.mt n hn; omega
  · rw [hl]; have := h.cm1; show c.cm ≤ _; omega
theorem scanC_range (c : Co) (lo : Int) : ∀ k : Nat, scanC c lo k = c.cm ∨ (lo < scanC c lo k ∧ scanC c lo k ≤ lo + k)
  | 0 => .inl rfl
  | k + 1 => by
    unfold scanC
    split
    · right; omega
    · rcases scanC_range c lo k with h | h
      · exact .inl h
      · right; omega
theorem count1_cm (c : Co) (h0 : c.l.b ≤ c.cm) (h1 : c.cm ≤ c.l.last) : c.cm ≤ (count1 c).cm ∧ (count1 c).cm ≤ c.l.last := by
  have := scanC_range c (max c.cm c.l.b) (c.l.last - max c.cm c.l.b).toNat
  show c.cm ≤ scanC c (max c.cm c.l.b) (c.l.last - max c.cm c.l.b).toNat ∧ scanC c (max c.cm c.l.b) (c.l.last - max c.cm c.l.b).toNat ≤ c.l.last
  omega
theorem CoFit.count1 {N : Nat} {c : Co} (h : CoFit N c) : CoFit N (count1 c) :=
  ⟨h.lo, h.n, h.id0, h.id1, h.nx, h.mt, by have := count1_cm c h.cm0 h.cm1; have := h.cm0; show c.l.b ≤ _; omega, (count1_cm c h.cm0 h.cm1).2⟩
theorem CoFit.yields {N : Nat} {c : Co} (h : CoFit N c) : CoFit N (yieldsC c) := ⟨h.lo, h.n, h.id0, h.id1, h.nx, h.mt, h.cm0, h.cm1⟩
theorem CoFit.endC {N : Nat} {c : Co} (h : CoFit N c) : CoFit N (endC c) := by
  unfold Go.Proofs.YtbnndbdnejfehaaGreatDoor.endC
  split
  · exact h
  · split
    · exact h
    · exact h.yields
theorem finE_ok {N : Nat} {c : Co} (h : CoFit N c) : JoF (joX (finE c).j) ∧ enM (finE c) = true := by
  have := final_ok h.lo.conf
  exact ⟨this.f, by rw [enM_conf rfl]; exact this.m⟩
theorem CoFit.counts {N : Nat} {c : Co} (h : CoFit N c) (hN : N < 1000000) : CoFit (N + 1) (countsC c) := by
  unfold countsC
  split
  · exact h.count1.mono (by omega)
  · split
    · exact ((h.count1.push hN (finE_ok h)).count1).endC
    · exact (h.count1.endC).mono (by omega)
theorem ent0_ok : JoF (joX ent0.j) ∧ enM ent0 = true := ⟨jnF0, enM_other (by decide)⟩
theorem CoFit.lead {N : Nat} {c : Co} (h : CoFit N c) : CoFit N (leadC c) := by
  have h0 := h.lo.f.b0; have h1 := h.lo.f.b1; have h2 := h.lo.f.n
  have hl : 0 ≤ c.l.last ∧ c.l.last ≤ 1152921504607846976 := by unfold Lg.last; omega
  exact ⟨h.lo, h.n, h.id0, h.id1, fun _ _ => by show 0 ≤ c.l.last + 1 ∧ c.l.last + 1 ≤ _; omega, fun _ _ => by show (0:Int) ≤ 0 ∧ (0:Int) ≤ c.l.last; omega, h.cm0, h.cm1⟩

/-- Joints, by name: the program's answers. -/
theorem jElects (J : Jn) (g : Int) (w : World) : Calls Tryz.prog 41 #[.agg #[.int .u16 J.ov, .int .u16 J.ox, .int .u16 J.ol, .int .i64 J.oe, .int .i64 J.ok, .int .u16 J.nv, .int .u16 J.nx, .int .u16 J.nl, .int .i64 J.ne, .int .i64 J.nk, .bool J.two], .int .u16 g] w fun r w' => r = .returned (.bool (electsN J g)) ∧ Below w.heap.size w w' :=
  confElects_any J.ov J.ox J.ol J.oe J.ok J.nv J.nx J.nl J.ne J.nk g J.two w
theorem jCommits (J : Jn) (g : Int) (w : World) : Calls Tryz.prog 116 #[.agg #[.int .u16 J.ov, .int .u16 J.ox, .int .u16 J.ol, .int .i64 J.oe, .int .i64 J.ok, .int .u16 J.nv, .int .u16 J.nx, .int .u16 J.nl, .int .i64 J.ne, .int .i64 J.nk, .bool J.two], .int .u16 g] w fun r w' => r = .returned (.bool (commitsN J g)) ∧ Below w.heap.size w w' :=
  confCommits_any J.ov J.ox J.ol J.oe J.ok J.nv J.nx J.nl J.ne J.nk g J.two w
theorem jVoting (J : Jn) (w : World) : Calls Tryz.prog 123 #[.agg #[.int .u16 J.ov, .int .u16 J.ox, .int .u16 J.ol, .int .i64 J.oe, .int .i64 J.ok, .int .u16 J.nv, .int .u16 J.nx, .int .u16 J.nl, .int .i64 J.ne, .int .i64 J.nk, .bool J.two]] w fun r w' => r = .returned (.int .u16 (votingN J)) ∧ Below w.heap.size w w' :=
  confVoting_any J.ov J.ox J.ol J.oe J.ok J.nv J.nx J.nl J.ne J.nk J.two w
theorem jLeads (J : Jn) (n : Int) (h : JoF (joX J)) (w : World) : Calls Tryz.prog 68 #[.agg #[.int .u16 J.ov, .int .u16 J.ox, .int .u16 J.ol, .int .i64 J.oe, .int .i64 J.ok, .int .u16 J.nv, .int .u16 J.nx, .int .u16 J.nl, .int .i64 J.ne, .int .i64 J.nk, .bool J.two], .int .i64 n] w fun r w' => r = .returned (.bool (leadsN J n)) ∧ Below w.heap.size w w' :=
  confLeads_any J.ov J.ox J.ol J.oe J.ok J.nv J.nx J.nl J.ne J.nk n J.two w h.1.v.1
theorem fin_value (J : Jn) : (if J.two then Value.agg #[.int .u16 J.nv, .int .u16 J.nx, .int .u16 J.nl, .int .i64 J.ne, .int .i64 J.nk, .int .u16 0, .int .u16 0, .int .u16 0, .int .i64 0, .int .i64 0, .bool false] else .agg #[.int .u16 J.ov, .int .u16 J.ox, .int .u16 J.ol, .int .i64 J.oe, .int .i64 J.ok, .int .u16 J.nv, .int .u16 J.nx, .int .u16 J.nl, .int .i64 J.ne, .int .i64 J.nk, .bool J.two]) = .agg #[.int .u16 (finalN J).ov, .int .u16 (finalN J).ox, .int .u16 (finalN J).ol, .int .i64 (finalN J).oe, .int .i64 (finalN J).ok, .int .u16 (finalN J).nv, .int .u16 (finalN J).nx, .int .u16 (finalN J).nl, .int .i64 (finalN J).ne, .int .i64 (finalN J).nk, .bool (finalN J).two] := by
  unfold finalN
  by_cases h : J.two = true
  · rw [if_pos h, if_pos h]
  · rw [if_neg h, if_neg h]
theorem jFinal (J : Jn) (w : World) : Calls Tryz.prog 130 #[.agg #[.int .u16 J.ov, .int .u16 J.ox, .int .u16 J.ol, .int .i64 J.oe, .int .i64 J.ok, .int .u16 J.nv, .int .u16 J.nx, .int .u16 J.nl, .int .i64 J.ne, .int .i64 J.nk, .bool J.two]] w fun r w' => r = .returned (.agg #[.int .u16 (finalN J).ov, .int .u16 (finalN J).ox, .int .u16 (finalN J).ol, .int .i64 (finalN J).oe, .int .i64 (finalN J).ok, .int .u16 (finalN J).nv, .int .u16 (finalN J).nx, .int .u16 (finalN J).nl, .int .i64 (finalN J).ne, .int .i64 (finalN J).nk, .bool (finalN J).two]) ∧ Below w.heap.size w w' := by
  have := confFinal_any J.ov J.ox J.ol J.oe J.ok J.nv J.nx J.nl J.ne J.nk J.two w
  rw [fin_value J] at this
  exact this
/-- The table stays, whatever an act does. -/
theorem AcW.tab {T : TypeId} {B R : Nat} {w w' : World} {x : CoX} {v v' : Value} {l : List MsX} (h : AcW T B w R x v l) (h0 : 0 < B) (ht : Tab w) (hr : AcR w w' R v v') : Tab w' := by
  have hb := h.below hr
  exact ⟨Nat.lt_of_lt_of_le ht.1 hr.size, fun j hj => by rw [hb.cell (by exact h0)]; exact ht.2 j hj⟩
end Go.Proofs.YtbnndbdnejfehaaGreatDoor
/- Core: the plain law: the least number that all voters have, as the program and as the reference reckon it. -/
namespace Go.Proofs.YtbnndbdnejfehaaGreatDoor

/-- The least of some, and of a first one. -/
def mnF (mt : Nat → Int) (L : List Int) (m : Int) : Int := L.foldl (fun m n => min m (mt n.toNat)) m
theorem mnF_app (mt : Nat → Int) (L L' : List Int) (m : Int) : mnF mt (L ++ L') m = mnF mt L' (mnF mt L m) := by unfold mnF; rw [List.foldl_append]
/-- What is in force behind an entry of a configuration's kind. -/
theorem conf_push {l : Lg} {e : Ent} (h : e.k = 2) : confL (pushL l e) = e.j := by
  unfold confL pushL
  show confF l.j (l.es ++ [e]) = _
  rw [confF_app]
  show (if e.k = 2 then e.j else _) = _
  rw [if_pos h]
theorem counts_two {c : Co} (h : ¬ (count1 c).cm < standL c.l) (h2 : (confL c.l).two = true) : countsC c = countsC (pushC (count1 c) (finE c)) := by
  have e : confL (pushC (count1 c) (finE c)).l = finalN (confL c.l) := conf_push rfl
  have e2 : (confL (pushC (count1 c) (finE c)).l).two = false := by rw [e]; exact final_one _
  conv => lhs; unfold countsC
  rw [if_neg h, if_pos h2]
  conv => rhs; unfold countsC
  rw [if_neg (by rw [e2]; decide : ¬ (confL (pushC (count1 c) (finE c)).l).two = true)]
  unfold endC
  split
  · rename_i h3; exact (if_pos (show _ < standL (pushC (count1 c) (finE c)).l from h3)).symm
  · rename_i h3; exact (if_neg (show ¬ _ < standL (pushC (count1 c) (finE c)).l from h3)).symm
theorem counts_low {c : Co} (h : (count1 c).cm < standL c.l) : countsC c = count1 c := by unfold countsC; rw [if_pos h]
theorem counts_one {c : Co} (h : ¬ (count1 c).cm < standL c.l) (h2 : (confL c.l).two = false) : countsC c = if leadsN (confL c.l) c.id = true then count1 c else yieldsC (count1 c) := by
  unfold countsC
  rw [if_neg h, if_neg (by rw [h2]; decide)]
  unfold endC
  exact if_neg (show ¬ _ < standL (count1 c).l from h)
end Go.Proofs.YtbnndbdnejfehaaGreatDoor
/- Core: methods of an act: who has the log up to a number. -/
namespace Go.Proofs.YtbnndbdnejfehaaGreatDoor
open Go.ChangeShapes Go.WideShapes Go.ChangeAt Go.RowKit

theorem matchedF_fit (mt : Nat → Int) (i : Int) : ∀ n, 0 ≤ matchedF mt i n ∧ matchedF mt i n ≤ 65535
  | 0 => ⟨Int.le_refl 0, by show (0 : Int) ≤ 65535; decide⟩
  | n + 1 => by
    unfold matchedF
    split
    · exact bits_fit _ _ _
    · exact matchedF_fit mt i n

set_option maxRecDepth 100000 in
set_option maxHeartbeats 8000000 in
theorem matched_act (R : Nat) (c : Co) (p : Option Addr) (k : Nat) (v : Value) (x : Int) (w : World) (hR : w.heap[R]? = some (.cells #[.int .i64 c.id, .int .i64 c.role, .int .i64 c.tm, .int .i64 c.vt, .int .i64 c.ld, .int .i64 c.wt, .int .i64 c.cm, .int .i64 c.sf, .int .i64 c.l.b, .int .i64 c.l.bt, .int .u16 c.l.j.ov, .int .u16 c.l.j.ox, .int .u16 c.l.j.ol, .int .i64 c.l.j.oe, .int .i64 c.l.j.ok, .int .u16 c.l.j.nv, .int .u16 c.l.j.nx, .int .u16 c.l.j.nl, .int .i64 c.l.j.ne, .int .i64 c.l.j.nk, .bool c.l.j.two, .slice p c.l.es.length k, .string c.sn, .int .u16 c.vs, .int .u16 c.hd, .int .i64 (c.nx 0), .int .i64 (c.nx 1), .int .i64 (c.nx 2), .int .i64 (c.nx 3), .int .i64 (c.nx 4), .int .i64 (c.nx 5), .int .i64 (c.nx 6), .int .i64 (c.nx 7), .int .i64 (c.nx 8), .int .i64 (c.nx 9), .int .i64 (c.mt 0), .int .i64 (c.mt 1), .int .i64 (c.mt 2), .int .i64 (c.mt 3), .int .i64 (c.mt 4), .int .i64 (c.mt 5), .int .i64 (c.mt 6), .int .i64 (c.mt 7), .int .i64 (c.mt 8), .int .i64 (c.mt 9), v] 69 (0, 0))) :
    Calls Tryz.prog 129 #[.pointer (some ⟨R, 0, none⟩), .int .i64 x] w fun e w' => e = .returned (.int .u16 (matchedC c x)) ∧ w = w' := by
  have HR := Lib.hid hR
  clear hR
  go_enter Tryz.func129, Tryz.ntmps129
  go_wp2_with fail
  go_loop [5, 6] (fun s i => ∃ n : Nat, n ≤ 9 ∧ s = .int .u16 (matchedF c.mt x n) ∧ i = .int .i64 ((n : Int) + 1)) (fun _ i => 10 - (intOf i).toNat)
  case atStart => exact ⟨0, Nat.zero_le _, rfl, rfl⟩
  case round =>
    obtain ⟨n, hn, rfl, rfl⟩ := hrel
    by_cases hlt : n < 9
    · have hd : decide ((n : Int) + 1 ≤ 9) = true := by simp; omega
      have kM := ac_mt HR.out (n := n + 1) (by omega)
      have hn0 : 0 ≤ (n : Int) + 1 := by omega
      have hn1 : (n : Int) + 1 < 10 := by omega
      obtain ⟨y, hy⟩ : ∃ y, c.mt (n + 1) = y := ⟨_, rfl⟩
      obtain ⟨s, hs⟩ : ∃ s, matchedF c.mt x n = s := ⟨_, rfl⟩
      have hf := matchedF_fit c.mt x n
      rewrite [hy] at kM
      rewrite [hs] at hf ⊢
      by_cases h : x ≤ y
      · have hN : matchedF c.mt x (n + 1) = bits .or .u16 s (oneB ((n : Int) + 1)) := by
          have h2 : x ≤ c.mt (n + 1) := by rw [hy]; exact h
          rw [matchedF, if_pos h2, hs]; rfl
        have HN := Lib.hid hN
        have HW := Lib.hid (show Calls Tryz.prog 40 #[.int .u16 s, .int .i64 ((n : Int) + 1)] w fun e w' => e = .returned (.int .u16 (bits .or .u16 s (oneB ((n : Int) + 1)))) ∧ w = w' from with_any _ _ w)
        clear hN hy hs hf
        go_wp2_with fail
        refine HW.out.mono ?_; rintro e w2 ⟨rfl, rfl⟩
        rewrite [← HN.out]
        go_wp2_with fail
        go_round
        case rel => exact ⟨n + 1, by omega, by go_num, by go_num⟩
        case measure => simp [intOf]; omega
      · have hN : matchedF c.mt x (n + 1) = s := by
          have h2 : ¬ x ≤ c.mt (n + 1) := by rw [hy]; exact h
          rw [matchedF, if_neg h2, hs]
        have HN := Lib.hid hN
        clear hN hy hs hf
        go_wp2_with fail
        go_round
        case rel => exact ⟨n + 1, by omega, by rw [HN.out], by go_num⟩
        case measure => simp [intOf]; omega
    · obtain rfl : n = 9 := by omega
      go_wp2_with fail
      go_ret
      exact ⟨rfl, rfl⟩
end Go.Proofs.YtbnndbdnejfehaaGreatDoor
/- Core: methods of an act: who is late is answered. -/
namespace Go.Proofs.YtbnndbdnejfehaaGreatDoor
open Go.ChangeShapes Go.WideShapes Go.ChangeAt Go.RowKit

set_option maxRecDepth 100000 in
set_option maxHeartbeats 8000000 in
theorem late_act (B R : Nat) (c : Co) (p : Option Addr) (k : Nat) (v : Value) (l : List MsX) (m : Ms) (q : Option Addr) (d : Nat) (w : World) (h : AcW 69 B w R ⟨c, p, k⟩ v l) (hl : l.length ≤ 90000) :
    Calls Tryz.prog 38 #[.pointer (some ⟨R, 0, none⟩), .agg #[.int .i64 m.k, .int .i64 m.fr, .int .i64 m.dst, .int .i64 m.tm, .int .i64 m.ix, .int .i64 m.lt, .int .i64 m.cm, .int .i64 m.sf, .bool m.yes, .slice q m.es.length d, .string m.sn, .int .u16 m.cf.ov, .int .u16 m.cf.ox, .int .u16 m.cf.ol, .int .i64 m.cf.oe, .int .i64 m.cf.ok, .int .u16 m.cf.nv, .int .u16 m.cf.nx, .int .u16 m.cf.nl, .int .i64 m.cf.ne, .int .i64 m.cf.nk, .bool m.cf.two]] w fun e w' => e = .returned (.tuple #[]) ∧ ∃ v' l', l'.map MsX.m = (lateA ⟨c, l.map MsX.m⟩ m).out ∧ AcW 69 B w' R ⟨c, p, k⟩ v' l' ∧ AcR w w' R v v' := by
  obtain ⟨W, hW⟩ : ∃ z : World, w.alloc (.cells #[.int .i64 m.k, .int .i64 m.fr, .int .i64 m.dst, .int .i64 m.tm, .int .i64 m.ix, .int .i64 m.lt, .int .i64 m.cm, .int .i64 m.sf, .bool m.yes, .slice q m.es.length d, .string m.sn, .int .u16 m.cf.ov, .int .u16 m.cf.ox, .int .u16 m.cf.ol, .int .i64 m.cf.oe, .int .i64 m.cf.ok, .int .u16 m.cf.nv, .int .u16 m.cf.nx, .int .u16 m.cf.nl, .int .i64 m.cf.ne, .int .i64 m.cf.nk, .bool m.cf.two] 39) = z := ⟨_, rfl⟩
  have hb : Below w.heap.size w W := by rw [← hW]; exact (Below.refl _ _).alloc (Nat.le_refl _) _
  have hX : W.heap[w.heap.size]? = some (.cells #[.int .i64 m.k, .int .i64 m.fr, .int .i64 m.dst, .int .i64 m.tm, .int .i64 m.ix, .int .i64 m.lt, .int .i64 m.cm, .int .i64 m.sf, .bool m.yes, .slice q m.es.length d, .string m.sn, .int .u16 m.cf.ov, .int .u16 m.cf.ox, .int .u16 m.cf.ol, .int .i64 m.cf.oe, .int .i64 m.cf.ok, .int .u16 m.cf.nv, .int .u16 m.cf.nx, .int .u16 m.cf.nl, .int .i64 m.cf.ne, .int .i64 m.cf.nk, .bool m.cf.two] 39 (0, 0)) := by rw [← hW]; exact heap_last w _
  have HA := Lib.hid (h.keep hb); have HB := Lib.hid (AcR.below (R := R) (v := v) hb); have HW := Lib.hid hW
  have kX := block_cells hX
  obtain ⟨L, hL⟩ : ∃ L, (lateA ⟨c, l.map MsX.m⟩ m).out = L := ⟨_, rfl⟩
  have HL := Lib.hid hL
  rw [hL]
  have HS := Lib.hid (show ∀ kk : Int, Calls Tryz.prog 89 #[.pointer (some ⟨R, 0, none⟩), .int .i64 m.fr, .agg #[.int .i64 kk, .int .i64 0, .int .i64 0, .int .i64 0, .int .i64 0, .int .i64 0, .int .i64 0, .int .i64 0, .bool false, .slice none 0 0, .string ⟨#[]⟩, .int .u16 0, .int .u16 0, .int .u16 0, .int .i64 0, .int .i64 0, .int .u16 0, .int .u16 0, .int .u16 0, .int .i64 0, .int .i64 0, .bool false]] W fun e w' => e = .returned (.tuple #[]) ∧ ∃ v', AcW 69 B w' R ⟨c, p, k⟩ v' (l ++ [⟨putM c m.fr { ms0 with k := kk }, none, 0⟩]) ∧ AcR W w' R v v' from fun kk => send_act B R c p k v l m.fr { ms0 with k := kk } none 0 W HA.out (MsOwn.none rfl) (fun b hb => by cases hb) (by omega))
  clear h hW hb hX hL
  go_enter Tryz.func38, Tryz.ntmps38
  go_upto_region 1 with fail
  rw [HW.out]
  clear HW
  by_cases h1 : m.k = 1
  · have e1 : (m.k == 1) = true := by simp [h1]
    have HZ : Hid (L = (l ++ [(⟨putM c m.fr { ms0 with k := 2 }, none, 0⟩ : MsX)]).map MsX.m) := by show _ = _; rw [← HL.out, List.map_append]; unfold lateA; rw [if_pos h1]; rfl
    clear h1
    go_wp2_with fail
    refine (HS.out 2).mono ?_; rintro e w2 ⟨rfl, v2, hA2, hr2⟩
    have HO := Lib.hid (And.intro hA2 (HB.out.trans hr2))
    clear hA2 hr2 HS
    go_wp2_with fail
    first | (go_end0; exact ⟨rfl, v2, _, HZ.out.symm, HO.out.1, HO.out.2⟩) | (refine bodyPost_ret (results_none rfl _ _ _) rfl ?_; exact ⟨rfl, v2, _, HZ.out.symm, HO.out.1, HO.out.2⟩)
  have e1 : (m.k == 1) = false := by simp [h1]
  by_cases h3 : m.k = 3
  · have e3 : (m.k == 3) = true := by simp [h3]
    have h35 : m.k = 3 ∨ m.k = 5 := .inl h3
    clear h3
    have HZ : Hid (L = (l ++ [(⟨putM c m.fr { ms0 with k := 4 }, none, 0⟩ : MsX)]).map MsX.m) := by show _ = _; rw [← HL.out, List.map_append]; unfold lateA; rw [if_neg h1, if_pos h35]; rfl
    clear h1 h35
    go_wp2_with fail
    refine (HS.out 4).mono ?_; rintro e w2 ⟨rfl, v2, hA2, hr2⟩
    have HO := Lib.hid (And.intro hA2 (HB.out.trans hr2))
    clear hA2 hr2 HS
    go_wp2_with fail
    first | (go_end0; exact ⟨rfl, v2, _, HZ.out.symm, HO.out.1, HO.out.2⟩) | (refine bodyPost_ret (results_none rfl _ _ _) rfl ?_; exact ⟨rfl, v2, _, HZ.out.symm, HO.out.1, HO.out.2⟩)
  have e3 : (m.k == 3) = false := by simp [h3]
  by_cases h5 : m.k = 5
  · have e5 : (m.k == 5) = true := by simp [h5]
    have h35 : m.k = 3 ∨ m.k = 5 := .inr h5
    clear h3 h5
    have HZ : Hid (L = (l ++ [(⟨putM c m.fr { ms0 with k := 4 }, none, 0⟩ : MsX)]).map MsX.m) := by show _ = _; rw [← HL.out, List.map_append]; unfold lateA; rw [if_neg h1, if_pos h35]; rfl
    clear h1 h35
    go_wp2_with fail
    refine (HS.out 4).mono ?_; rintro e w2 ⟨rfl, v2, hA2, hr2⟩
    have HO := Lib.hid (And.intro hA2 (HB.out.trans hr2))
    clear hA2 hr2 HS
    go_wp2_with fail
    first | (go_end0; exact ⟨rfl, v2, _, HZ.out.symm, HO.out.1, HO.out.2⟩) | (refine bodyPost_ret (results_none rfl _ _ _) rfl ?_; exact ⟨rfl, v2, _, HZ.out.symm, HO.out.1, HO.out.2⟩)
  have e5 : (m.k == 5) = false := by simp [h5]
  have HZ : Hid (L = l.map MsX.m) := by show _ = _; rw [← HL.out]; unfold lateA; simp only [h1, h3, h5, if_neg, not_false_eq_true, or_self]
  clear h1 h3 h5
  go_wp2_with fail
  go_end0
  exact ⟨rfl, v, l, HZ.out.symm, HA.out, HB.out⟩
end Go.Proofs.YtbnndbdnejfehaaGreatDoor
/- Core: small laws for the methods that reckon what is committed. -/
namespace Go.Proofs.YtbnndbdnejfehaaGreatDoor
open Go.ChangeShapes Go.WideShapes Go.ChangeAt Go.RowKit

theorem joint_cells {w : World} {X : Nat} {J : Jn} (h : w.heap[X]? = some (.cells #[.int .u16 J.ov, .int .u16 J.ox, .int .u16 J.ol, .int .i64 J.oe, .int .i64 J.ok, .int .u16 J.nv, .int .u16 J.nx, .int .u16 J.nl, .int .i64 J.ne, .int .i64 J.nk, .bool J.two] 27 (0, 0))) : ∀ w', Below w.heap.size w w' → ∀ j, w'.cell? ⟨X, j, none⟩ = (#[.int .u16 J.ov, .int .u16 J.ox, .int .u16 J.ol, .int .i64 J.oe, .int .i64 J.ok, .int .u16 J.nv, .int .u16 J.nx, .int .u16 J.nl, .int .i64 J.ne, .int .i64 J.nk, .bool J.two] : Array Value)[j]? := fun _w' hb => block_cells (below_block hb (block_lt h) h)
theorem mnF_next (mt : Nat → Int) {O : List Int} {n x : Nat} {m : Int} (h : n < O.length) (hx : O[n] = (x : Int)) : min (mnF mt (O.take n) m) (mt x) = mnF mt (O.take (n + 1)) m := by
  rw [List.take_succ_eq_append_getElem h, mnF_app, hx]; rfl
/-- All cells of a block but one. -/
structure ExS (R n : Nat) (cs : Array Value) (w' : World) : Prop where
  r : ∀ j, j ≠ n → w'.cell? ⟨R, j, none⟩ = cs[j]?
theorem ExS.of {R n : Nat} {cs : Array Value} {t : TypeId} {w : World} (h : w.heap[R]? = some (.cells cs t (0, 0))) : ExS R n cs w := ⟨fun j _ => block_cells h j⟩
theorem ExS.put {R n : Nat} {cs : Array Value} {t : TypeId} {w : World} {u : Value} (h : w.heap[R]? = some (.cells cs t (0, 0))) : ExS R n cs (w.setCell ⟨R, n, none⟩ u) := ⟨fun j hj => by
  rw [block_cells (cells_setW h n u), Array.getElem?_setIfInBounds_ne (by omega)]⟩
end Go.Proofs.YtbnndbdnejfehaaGreatDoor
