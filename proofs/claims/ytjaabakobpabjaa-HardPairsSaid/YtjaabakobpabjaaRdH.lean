/- Wire: package wire's readers of joints. -/
import Derived.Test.YtjaabakobpabjaaRdE
namespace Go.Proofs.Ytjaabakobpabjaa
open Go.ChangeShapes Go.WideShapes Go.ChangeAt Go.RowKit

theorem get16_any (B : Nat) (v : Value) (xs : List Int) (w : World) (ho : Oct xs) (hS : Sl B w v 1 xs.length (byt xs)) (hl : (xs.length : Int) ≤ 140737488300000) : ∃ er : Int, decide (er ≠ 0) = decide (xs.length < 2) ∧ Calls Try.prog 105 #[v, .int .i64 0, .int .i64 2] w fun e w' => e = .returned (.tuple #[.int .u64 (if 2 ≤ xs.length then beVal (xs.take 2) else 0), .int .i64 er]) ∧ w = w' := by
  by_cases h : 2 ≤ xs.length
  · refine ⟨0, by simp; omega, ?_⟩
    rw [if_pos h]
    have := get_ok B v xs ho 0 2 w hS (by omega) (by omega) (by omega)
    simpa using this
  · refine ⟨2, by simp; omega, ?_⟩
    rw [if_neg h]
    exact get_short B v xs 0 2 w hS (by omega) (by omega) (by omega) (by omega)
set_option maxRecDepth 100000 in
set_option maxHeartbeats 4000000 in
theorem cfgSet_any (B R T : Nat) (xs : List Int) (b : Bool) (w : World) (h : RdW B w R xs b) (hT : w.heap[T]? = some (.cells #[.pointer (some ⟨R, 0, none⟩)] 132 (0, 0))) (hTR : T ≠ R) :
    Calls Try.prog 104 #[.pointer (some ⟨T, 0, none⟩)] w (RdE B R w (Value.int .u16) (rd16 xs b)) := by
  have hn : rd16 xs b = (if 2 ≤ xs.length then beVal (xs.take 2) else 0, xs.drop 2, b || decide (xs.length < 2)) := rfl
  have hov := rd16_ok.oct xs b h.o
  have hln := rd16_len xs b
  obtain ⟨⟨z, ys, b2⟩, hr⟩ : ∃ r, rd16 xs b = r := ⟨_, rfl⟩
  rw [hr] at hn hov hln ⊢
  obtain ⟨hB, p, cap, hR, hS⟩ := h.r
  obtain ⟨er, he, hG⟩ := get16_any B _ xs w h.o hS h.l
  have hz16 : 0 ≤ z ∧ z ≤ 65535 := by
    simp only [Prod.mk.injEq] at hn
    rw [hn.1]
    split
    · have := beVal_bound 2 (xs.take 2) (by rw [List.length_take]; omega) (h.o.take 2)
      have e2 : (256 : Int) ^ 2 = 65536 := by decide
      omega
    · omega
  simp only [Prod.mk.injEq] at hn
  rw [← hn.1] at hG
  have HG := Lib.hid hG
  have HF := Lib.hid (rfails_any B R xs b er w h.r)
  rw [he, ← hn.2.2] at HF
  have HD := Lib.hid hn.2.1
  have HL := Lib.hid (And.intro hov (show (ys.length : Int) ≤ 140737488300000 by have := h.l; dsimp only at hln; omega))
  obtain ⟨z0, z1⟩ := hz16
  have hw : IntKind.u16.wrap z = z := by rw [show IntKind.u16.wrap z = z % 65536 from rfl]; omega
  have kR := block_cells hR
  have kT := block_cells hT
  have HT := Lib.hid hT
  clear hn hov hln hr hR hS he hG h hT
  go_enter Try.func104, Try.ntmps104
  go_wp2_with fail
  refine HG.out.mono ?_; rintro e w' ⟨rfl, rfl⟩
  go_wp2_with fail
  refine HF.out.mono ?_; rintro e w1 ⟨rfl, h1, g1⟩
  have HS1 := Lib.hid (rskip_any B R xs b2 2 w1 h1)
  have G1 := Lib.hid g1
  have kT1 := block_cells (rd_stays g1 HT.out hTR)
  clear h1 g1 kR kT
  go_wp2_with fail
  refine HS1.out.mono ?_; rintro e w2 ⟨rfl, h2, g2⟩
  have H2 := Lib.hid h2; have G2 := Lib.hid (grown_transW G1.out g2)
  clear h2 g2 kT1
  go_wp2_with fail
  go_ret
  have h2 := H2.out
  rw [← HD.out] at h2
  refine ⟨?_, ⟨h2, HL.out.1, HL.out.2⟩, G2.out⟩
  first | rfl | (congr 2; omega)
set_option maxRecDepth 100000 in
set_option maxHeartbeats 8000000 in
theorem rcfgW_any (B R : Nat) (xs : List Int) (b : Bool) (w : World) (h : RdW B w R xs b) :
    Calls Try.prog 93 #[.pointer (some ⟨R, 0, none⟩)] w (RdE B R w (fun c : CfX => .agg #[.int .u16 c.v, .int .u16 c.x, .int .u16 c.l, .int .i64 c.e, .int .i64 c.k]) (rdCf xs b)) := by
  have H := Lib.hid h
  have hRl := h.lt
  have hmf : ∀ (fn : Fn) (first cap : Array Value) (w : World), (Instr.makeFunc fn first cap).run Try.prog w = .ok (.func fn first cap) w := fun _ _ _ _ => rfl
  clear h
  obtain ⟨⟨l1, X1, b1⟩, hr1⟩ : ∃ r, rd16 xs b = r := ⟨_, rfl⟩
  have C1 : Hid (∀ T w', RdW B w' R xs b → w'.heap[T]? = some (.cells #[.pointer (some ⟨R, 0, none⟩)] 132 (0, 0)) → T ≠ R → Calls Try.prog 104 #[.pointer (some ⟨T, 0, none⟩)] w' fun e w'' => e = .returned (.int .u16 l1) ∧ RdW B w'' R X1 b1 ∧ w'.grownBy w'' (some R)) := fun T w' h hT hn => by
    have := cfgSet_any B R T xs b w' h hT hn; rw [hr1] at this; exact this
  obtain ⟨⟨l2, X2, b2⟩, hr2⟩ : ∃ r, rd16 X1 b1 = r := ⟨_, rfl⟩
  have C2 : Hid (∀ T w', RdW B w' R X1 b1 → w'.heap[T]? = some (.cells #[.pointer (some ⟨R, 0, none⟩)] 132 (0, 0)) → T ≠ R → Calls Try.prog 104 #[.pointer (some ⟨T, 0, none⟩)] w' fun e w'' => e = .returned (.int .u16 l2) ∧ RdW B w'' R X2 b2 ∧ w'.grownBy w'' (some R)) := fun T w' h hT hn => by
    have := cfgSet_any B R T X1 b1 w' h hT hn; rw [hr2] at this; exact this
  obtain ⟨⟨l3, X3, b3⟩, hr3⟩ : ∃ r, rd16 X2 b2 = r := ⟨_, rfl⟩
  have C3 : Hid (∀ T w', RdW B w' R X2 b2 → w'.heap[T]? = some (.cells #[.pointer (some ⟨R, 0, none⟩)] 132 (0, 0)) → T ≠ R → Calls Try.prog 104 #[.pointer (some ⟨T, 0, none⟩)] w' fun e w'' => e = .returned (.int .u16 l3) ∧ RdW B w'' R X3 b3 ∧ w'.grownBy w'' (some R)) := fun T w' h hT hn => by
    have := cfgSet_any B R T X2 b2 w' h hT hn; rw [hr3] at this; exact this
  obtain ⟨⟨l4, X4, b4⟩, hr4⟩ : ∃ r, rdNw X3 b3 = r := ⟨_, rfl⟩
  have C4 : Hid (∀ w', RdW B w' R X3 b3 → Calls Try.prog 108 #[.pointer (some ⟨R, 0, none⟩)] w' fun e w'' => e = .returned (.int .i64 l4) ∧ RdW B w'' R X4 b4 ∧ w'.grownBy w'' (some R)) := fun w' h => by
    have := rintE B R X3 b3 w' h; rw [hr4] at this; exact this
  obtain ⟨⟨l5, X5, b5⟩, hr5⟩ : ∃ r, rdNw X4 b4 = r := ⟨_, rfl⟩
  have C5 : Hid (∀ w', RdW B w' R X4 b4 → Calls Try.prog 108 #[.pointer (some ⟨R, 0, none⟩)] w' fun e w'' => e = .returned (.int .i64 l5) ∧ RdW B w'' R X5 b5 ∧ w'.grownBy w'' (some R)) := fun w' h => by
    have := rintE B R X4 b4 w' h; rw [hr5] at this; exact this
  have HRD : Hid (rdCf xs b = (⟨l1, l2, l3, l4, l5⟩, X5, b5)) := rdMap_is (rd2_is hr1 (rd2_is hr2 (rd2_is hr3 (rd2_is hr4 hr5))))
  clear hr1 hr2 hr3 hr4 hr5
  go_enter Try.func93, Try.ntmps93
  go_upto_region 2 with fail
  obtain ⟨Wa, hWa⟩ : ∃ x : World, w.alloc (.cells #[.pointer (some ⟨R, 0, none⟩)] 132) = x := ⟨_, rfl⟩
  obtain ⟨W, hW⟩ : ∃ x : World, Wa.alloc (.cells #[.int .u16 0, .int .u16 0, .int .u16 0, .int .i64 0, .int .i64 0] 40) = x := ⟨_, rfl⟩
  have sa : Wa.heap.size = w.heap.size + 1 := by rw [← hWa]; simp
  have ba : Below w.heap.size w Wa := by rw [← hWa]; exact (Below.refl _ _).alloc (Nat.le_refl _) _
  have bb : Below Wa.heap.size Wa W := by rw [← hW]; exact (Below.refl _ _).alloc (Nat.le_refl _) _
  have hT : W.heap[w.heap.size]? = some (.cells #[.pointer (some ⟨R, 0, none⟩)] 132 (0, 0)) := below_block bb (by omega) (by rw [← hWa]; exact heap_last w _)
  have hZ : W.heap[w.heap.size + 1]? = some (.cells #[.int .u16 0, .int .u16 0, .int .u16 0, .int .i64 0, .int .i64 0] 40 (0, 0)) := by rw [← hW, ← sa]; exact heap_last Wa _
  have bw := ba.trans (bb.mono (by omega))
  have hW0 := H.out.keep bw (Nat.le_refl _)
  have HB0 := Lib.hid (show w.grownBy W (some R) from grown_below bw _)
  have HZ := Lib.hid hZ
  rw [hWa, hW]
  obtain ⟨N, eN⟩ : ∃ n, w.heap.size = n := ⟨_, rfl⟩
  have HN := Lib.hid eN
  rw [eN] at hT HZ hRl ⊢
  clear hWa hW sa ba bb hZ bw eN H
  have kT : ∀ w' : World, w'.heap[N]? = some (.cells #[.pointer (some ⟨R, 0, none⟩)] 132 (0, 0)) → ∀ j, w'.cell? ⟨N, j, none⟩ = #[.pointer (some ⟨R, 0, none⟩)][j]? := fun w' h => block_cells h
  have t0 : W.drew.heap[N]? = some (.cells #[.pointer (some ⟨R, 0, none⟩)] 132 (0, 0)) := hT
  have q0 : W.grownBy W.drew (some R) := grown_drewW (grown_refl W _)
  have r0 := hW0.drew
  refine wp_region_held_drew (S := fun w' => w'.heap[N]? = some (.cells #[.pointer (some ⟨R, 0, none⟩)] 132 (0, 0))) (by kernel_rfl) t0 (fun hHeld => ?_)
  obtain ⟨wd, ewd⟩ : ∃ x, W.drew = x := ⟨_, rfl⟩
  rw [ewd] at t0 q0 r0 hHeld ⊢
  clear ewd hT hW0
  refine wpAnyH_take (i := 0) (v := ?_) rfl (by kernel_rfl) (by kernel_rfl) (by kernel_rfl) (fun _ _ _ h => h) (Or.inl ⟨by rfl, ?_⟩) hHeld ?_
  rotate_left
  · (intro wz hSw; (try dsimp only at hSw); (try simp only [List.getElem_toArray, List.getElem_cons_zero]); go_simp; try with_reducible rfl)
  try simp only [List.getElem_toArray, List.getElem_cons_zero, Act.put, List.setIfInBounds_toArray, List.set_cons_zero, List.set_cons_succ]
  refine wpAnyH_take (i := 2) (v := ?_) rfl (by kernel_rfl) (by kernel_rfl) (by kernel_rfl) (fun _ _ _ h => h) (Or.inl ⟨by rfl, ?_⟩) hHeld ?_
  rotate_left
  · (intro wz hSw; (try dsimp only at hSw); (try simp only [List.getElem_toArray, List.getElem_cons_succ, List.getElem_cons_zero]); go_simp; try with_reducible rfl)
  try simp only [List.getElem_toArray, List.getElem_cons_succ, List.getElem_cons_zero, Act.put, List.setIfInBounds_toArray, List.set_cons_zero, List.set_cons_succ]
  refine wpAnyH_take (i := 4) (v := ?_) rfl (by kernel_rfl) (by kernel_rfl) (by kernel_rfl) (fun _ _ _ h => h) (Or.inl ⟨by rfl, ?_⟩) hHeld ?_
  rotate_left
  · (intro wz hSw; (try dsimp only at hSw); (try simp only [List.getElem_toArray, List.getElem_cons_succ, List.getElem_cons_zero]); go_simp; try with_reducible rfl)
  try simp only [List.getElem_toArray, List.getElem_cons_succ, List.getElem_cons_zero, Act.put, List.setIfInBounds_toArray, List.set_cons_zero, List.set_cons_succ]
  refine wpAnyH_take (i := 6) (v := ?_) rfl (by kernel_rfl) (by kernel_rfl) (by kernel_rfl) (fun _ _ _ h => h) (Or.inl ⟨by rfl, ?_⟩) hHeld ?_
  rotate_left
  · (intro wz hSw; (try dsimp only at hSw); (try simp only [List.getElem_toArray, List.getElem_cons_succ, List.getElem_cons_zero]); go_simp; try with_reducible rfl)
  try simp only [List.getElem_toArray, List.getElem_cons_succ, List.getElem_cons_zero, Act.put, List.setIfInBounds_toArray, List.set_cons_zero, List.set_cons_succ]
  refine wpAnyH_take (i := 8) (v := ?_) rfl (by kernel_rfl) (by kernel_rfl) (by kernel_rfl) (fun _ _ _ h => h) (Or.inl ⟨by rfl, ?_⟩) hHeld ?_
  rotate_left
  · (intro wz hSw; (try dsimp only at hSw); (try simp only [List.getElem_toArray, List.getElem_cons_succ, List.getElem_cons_zero]); go_simp; try with_reducible rfl)
  try simp only [List.getElem_toArray, List.getElem_cons_succ, List.getElem_cons_zero, Act.put, List.setIfInBounds_toArray, List.set_cons_zero, List.set_cons_succ]
  refine wpAnyH_ready (rs := [1]) (by kernel_rfl) (by simp) ?_; refine AllReadyH.cons rfl (fun K hK => ?_) AllReadyH.nil; (try simp only [List.getElem_toArray, List.getElem_cons_succ, List.getElem_cons_zero]); go_simp
  refine (C1.out N _ r0 t0 (by omega)).mono ?_; rintro r wc1 ⟨rfl, rc1, kc1⟩
  have qc1 := grown_transW q0 kc1
  have tc1 := rd_stays kc1 t0 (by omega)
  refine hK.out _ _ tc1 (fun _ => ?_)
  clear hK K hHeld
  try simp only [List.getElem_toArray, List.getElem_cons_succ, List.getElem_cons_zero, Act.put, List.setIfInBounds_toArray, List.set_cons_zero, List.set_cons_succ]
  have hHeld := tc1
  refine wpAnyH_ready (rs := [3]) (by kernel_rfl) (by simp) ?_; refine AllReadyH.cons rfl (fun K hK => ?_) AllReadyH.nil; (try simp only [List.getElem_toArray, List.getElem_cons_succ, List.getElem_cons_zero]); go_simp
  refine (C2.out N _ rc1 tc1 (by omega)).mono ?_; rintro r wc2 ⟨rfl, rc2, kc2⟩
  have qc2 := grown_transW qc1 kc2
  have tc2 := rd_stays kc2 tc1 (by omega)
  refine hK.out _ _ tc2 (fun _ => ?_)
  clear hK K hHeld
  try simp only [List.getElem_toArray, List.getElem_cons_succ, List.getElem_cons_zero, Act.put, List.setIfInBounds_toArray, List.set_cons_zero, List.set_cons_succ]
  have hHeld := tc2
  refine wpAnyH_ready (rs := [5]) (by kernel_rfl) (by simp) ?_; refine AllReadyH.cons rfl (fun K hK => ?_) AllReadyH.nil; (try simp only [List.getElem_toArray, List.getElem_cons_succ, List.getElem_cons_zero]); go_simp
  refine (C3.out N _ rc2 tc2 (by omega)).mono ?_; rintro r wc3 ⟨rfl, rc3, kc3⟩
  have qc3 := grown_transW qc2 kc3
  have tc3 := rd_stays kc3 tc2 (by omega)
  refine hK.out _ _ tc3 (fun _ => ?_)
  clear hK K hHeld
  try simp only [List.getElem_toArray, List.getElem_cons_succ, List.getElem_cons_zero, Act.put, List.setIfInBounds_toArray, List.set_cons_zero, List.set_cons_succ]
  have hHeld := tc3
  refine wpAnyH_ready (rs := [7]) (by kernel_rfl) (by simp) ?_; refine AllReadyH.cons rfl (fun K hK => ?_) AllReadyH.nil; (try simp only [List.getElem_toArray, List.getElem_cons_succ, List.getElem_cons_zero]); go_simp
  refine (C4.out _ rc3).mono ?_; rintro r wc4 ⟨rfl, rc4, kc4⟩
  have qc4 := grown_transW qc3 kc4
  have tc4 := rd_stays kc4 tc3 (by omega)
  refine hK.out _ _ tc4 (fun _ => ?_)
  clear hK K hHeld
  try simp only [List.getElem_toArray, List.getElem_cons_succ, List.getElem_cons_zero, Act.put, List.setIfInBounds_toArray, List.set_cons_zero, List.set_cons_succ]
  have hHeld := tc4
  refine wpAnyH_ready (rs := [9]) (by kernel_rfl) (by simp) ?_; refine AllReadyH.cons rfl (fun K hK => ?_) AllReadyH.nil; (try simp only [List.getElem_toArray, List.getElem_cons_succ, List.getElem_cons_zero]); go_simp
  refine (C5.out _ rc4).mono ?_; rintro r wc5 ⟨rfl, rc5, kc5⟩
  have qc5 := grown_transW qc4 kc5
  have tc5 := rd_stays kc5 tc4 (by omega)
  refine hK.out _ _ tc5 (fun _ => ?_)
  clear hK K hHeld
  try simp only [List.getElem_toArray, List.getElem_cons_succ, List.getElem_cons_zero, Act.put, List.setIfInBounds_toArray, List.set_cons_zero, List.set_cons_succ]
  have hHeld := tc5
  refine wpAnyH_take (i := 10) (v := ?_) rfl (by kernel_rfl) (by kernel_rfl) (by kernel_rfl) (fun _ _ _ h => h) (Or.inl ⟨by rfl, ?_⟩) hHeld ?_
  rotate_left
  · (intro wz hSw; (try dsimp only at hSw); (try simp only [List.getElem_toArray, List.getElem_cons_succ, List.getElem_cons_zero]); go_simp; try with_reducible rfl)
  try simp only [List.getElem_toArray, List.getElem_cons_succ, List.getElem_cons_zero, Act.put, List.setIfInBounds_toArray, List.set_cons_zero, List.set_cons_succ]
  have hZ5 := rd_stays qc5 HZ.out (by omega)
  have kg := block_cells hZ5
  have fg := block_free hZ5
  refine wpAnyH_ready (rs := [11]) (by kernel_rfl) (by simp) ?_; refine AllReadyH.cons rfl (fun K hK => ?_) AllReadyH.nil; (try simp only [List.getElem_toArray, List.getElem_cons_succ, List.getElem_cons_zero]); go_simp
  have hzF := putL_at hZ5 [.int .u16 l1, .int .u16 l2, .int .u16 l3, .int .i64 l4, .int .i64 l5] rfl
  have hT9 := (putL_far (g := N + 1) (k := N) (by omega) [.int .u16 l1, .int .u16 l2, .int .u16 l3, .int .i64 l4, .int .i64 l5] 0 wc5).trans tc5
  have hbF := putL_gr (g := N + 1) (w0 := w) (by rw [HN.out]; omega) [.int .u16 l1, .int .u16 l2, .int .u16 l3, .int .i64 l4, .int .i64 l5] 0 (grown_transW HB0.out qc5)
  have hrF := putL_rd (g := N + 1) (R := R) (by omega) [.int .u16 l1, .int .u16 l2, .int .u16 l3, .int .i64 l4, .int .i64 l5] 0 rc5.r
  simp only [putL, Nat.reduceAdd, Nat.zero_add] at hzF hT9 hbF hrF
  refine hK.out _ _ hT9 (fun _ => ?_)
  clear hK K hHeld kg fg kT
  try simp only [List.getElem_toArray, List.getElem_cons_succ, List.getElem_cons_zero, Act.put, List.setIfInBounds_toArray, List.set_cons_zero, List.set_cons_succ]
  refine wpAnyH_done (by kernel_rfl) ?_ _
  have kF := block_cells hzF
  go_wp2_with fail
  refine bodyPost_ret (v := .agg #[.int .u16 l1, .int .u16 l2, .int .u16 l3, .int .i64 l4, .int .i64 l5]) ?_ rfl ⟨by rw [HRD.out], ?_, hbF⟩
  · simp [results, Try.results93, go_sem, kF]
  · rw [HRD.out]; exact ⟨hrF, rc5.o, rc5.l⟩
/-- Bytes are read as a joint, if they begin with one's. -/
def TkJoint (w : World) (xs : List Int) (e : Ending) (w' : World) : Prop :=
  Below w.heap.size w w' ∧ ((∃ (j : JoX) (ys : List Int), encJo j ++ ys = xs ∧ JoF j ∧ e = .returned (.tuple #[.agg #[.int .u16 j.o.v, .int .u16 j.o.x, .int .u16 j.o.l, .int .i64 j.o.e, .int .i64 j.o.k, .int .u16 j.n.v, .int .u16 j.n.x, .int .u16 j.n.l, .int .i64 j.n.e, .int .i64 j.n.k, .bool j.two], .int .i64 ((encJo j).length : Int), .int .i64 0])) ∨
    ((∀ j ys, JoF j → encJo j ++ ys ≠ xs) ∧ e = .returned (.tuple #[.agg #[.int .u16 0, .int .u16 0, .int .u16 0, .int .i64 0, .int .i64 0, .int .u16 0, .int .u16 0, .int .u16 0, .int .i64 0, .int .i64 0, .bool false], .int .i64 0, .int .i64 9])))
set_option maxRecDepth 100000 in
set_option maxHeartbeats 16000000 in
theorem wtakeJoint_any (X0 : List Int) (v : Value) (w : World) (hv : Sl w.heap.size w v 1 X0.length (byt X0)) (hoct : Oct X0) (hlen : (X0.length : Int) ≤ 140737488300000) :
    Calls Try.prog 80 #[v] w (TkJoint w X0) := by
  obtain ⟨p, cap, rfl, hc1, hc2, -, -⟩ := hv.form
  have HV := Lib.hid hv; have HOC := Lib.hid hoct
  obtain ⟨B, eB⟩ : ∃ n, w.heap.size = n := ⟨_, rfl⟩
  have HEB := Lib.hid eB
  obtain ⟨⟨j1, X1, b1⟩, hr1⟩ : ∃ r, rdCf X0 false = r := ⟨_, rfl⟩
  obtain ⟨⟨j2, X2, b2⟩, hr2⟩ : ∃ r, rdCf X1 b1 = r := ⟨_, rfl⟩
  obtain ⟨⟨f, X3, b3⟩, hr3⟩ : ∃ r, rdFw X2 b2 = r := ⟨_, rfl⟩
  have hl3 : X3.length ≤ X0.length := by
    have l1 := rdCf_len X0 false; have l2 := rdCf_len X1 b1; have l3 := rdFw_len X2 b2
    rw [hr1] at l1; rw [hr2] at l2; rw [hr3] at l3; dsimp only at l1 l2 l3; omega
  have HRD : Hid (rdJo X0 false = (⟨j1, j2, f⟩, X3, b3)) := rdMap_is (rd2_is hr1 (rd2_is hr2 hr3))
  have C1 : Hid (∀ R w', RdW B w' R X0 false → Calls Try.prog 93 #[.pointer (some ⟨R, 0, none⟩)] w' fun e w'' => e = .returned (.agg #[.int .u16 j1.v, .int .u16 j1.x, .int .u16 j1.l, .int .i64 j1.e, .int .i64 j1.k]) ∧ RdW B w'' R X1 b1 ∧ w'.grownBy w'' (some R)) := fun R w' h => by
    have := rcfgW_any B R X0 false w' h; rw [hr1] at this; exact this
  have C2 : Hid (∀ R w', RdW B w' R X1 b1 → Calls Try.prog 93 #[.pointer (some ⟨R, 0, none⟩)] w' fun e w'' => e = .returned (.agg #[.int .u16 j2.v, .int .u16 j2.x, .int .u16 j2.l, .int .i64 j2.e, .int .i64 j2.k]) ∧ RdW B w'' R X2 b2 ∧ w'.grownBy w'' (some R)) := fun R w' h => by
    have := rcfgW_any B R X1 b1 w' h; rw [hr2] at this; exact this
  have C3 : Hid (∀ R w', RdW B w' R X2 b2 → Calls Try.prog 94 #[.pointer (some ⟨R, 0, none⟩)] w' fun e w'' => e = .returned (.bool f) ∧ RdW B w'' R X3 b3 ∧ w'.grownBy w'' (some R)) := fun R w' h => by
    have := rflagE B R X2 b2 w' h; rw [hr3] at this; exact this
  have HLN := Lib.hid hlen
  clear hr1 hr2 hr3 hv hoct hc1 hc2
  go_enter Try.func80, Try.ntmps80
  go_upto_region 2 with fail
  obtain ⟨Wa, hWa⟩ : ∃ x : World, w.alloc (.cells #[.int .u16 0, .int .u16 0, .int .u16 0, .int .i64 0, .int .i64 0, .int .u16 0, .int .u16 0, .int .u16 0, .int .i64 0, .int .i64 0, .bool false] 42) = x := ⟨_, rfl⟩
  obtain ⟨W, hW⟩ : ∃ x : World, Wa.alloc (.cells #[.slice p X0.length cap, .bool false] 134) = x := ⟨_, rfl⟩
  have sa : Wa.heap.size = B + 1 := by rw [← hWa]; simp; omega
  have ba : Below B w Wa := by rw [← hWa]; exact (Below.refl _ _).alloc (by omega) _
  have bb : Below Wa.heap.size Wa W := by rw [← hW]; exact (Below.refl _ _).alloc (Nat.le_refl _) _
  have hR : W.heap[B + 1]? = some (.cells #[.slice p X0.length cap, .bool false] 134 (0, 0)) := by rw [← hW, ← sa]; exact heap_last _ _
  have hZa : Wa.heap[B]? = some (.cells #[.int .u16 0, .int .u16 0, .int .u16 0, .int .i64 0, .int .i64 0, .int .u16 0, .int .u16 0, .int .u16 0, .int .i64 0, .int .i64 0, .bool false] 42 (0, 0)) := by rw [← hWa, ← eB]; exact heap_last _ _
  have hZ := below_block bb (block_lt hZa) hZa
  have hB1 : Below B w W := ba.trans (bb.mono (by omega))
  have hr : RdW B W (B + 1) X0 false := ⟨⟨by omega, p, cap, hR, by have := HV.out; rw [eB] at this; exact this.keep hB1⟩, HOC.out, HLN.out⟩
  rw [hWa, hW]
  obtain ⟨R, eR⟩ : ∃ n, B + 1 = n := ⟨_, rfl⟩
  try rw [eB]
  rw [eR] at hr ⊢
  have hBR : B < R := by omega
  have H0 := Lib.hid hr; have HB1 := Lib.hid hB1; have HZ := Lib.hid hZ
  clear hWa hW sa ba bb hR hZa hZ hB1 hr eR eB HV HLN
  go_wp2_with fail
  refine (C1.out _ _ H0.out).mono ?_; rintro e w1 ⟨rfl, h1, g1⟩
  have H1 := Lib.hid h1; have G1 := Lib.hid g1
  clear h1 g1 C1 H0
  go_wp2_with fail
  refine (C2.out _ _ H1.out).mono ?_; rintro e w2 ⟨rfl, h1, g1⟩
  have H2 := Lib.hid h1; have G2 := Lib.hid (grown_transW G1.out g1)
  clear h1 g1 C2 H1 G1
  go_wp2_with fail
  refine (C3.out _ _ H2.out).mono ?_; rintro e w3 ⟨rfl, h1, g1⟩
  have H3 := Lib.hid h1; have G3 := Lib.hid (grown_transW G2.out g1)
  have hZ3 := rd_stays G3.out HZ.out (by omega)
  have HZ3 := Lib.hid hZ3
  have kz := block_cells hZ3
  have fz := block_free hZ3
  clear h1 g1 C3 H2 G2 hZ3 HZ
  have hJ := putL_at HZ3.out [.int .u16 j1.v, .int .u16 j1.x, .int .u16 j1.l, .int .i64 j1.e, .int .i64 j1.k, .int .u16 j2.v, .int .u16 j2.x, .int .u16 j2.l, .int .i64 j2.e, .int .i64 j2.k, .bool f] rfl
  have hJb := putL_bel (g := B) (Nat.le_refl B) [.int .u16 j1.v, .int .u16 j1.x, .int .u16 j1.l, .int .i64 j1.e, .int .i64 j1.k, .int .u16 j2.v, .int .u16 j2.x, .int .u16 j2.l, .int .i64 j2.e, .int .i64 j2.k, .bool f] 0 (HB1.out.grown G3.out (by have := HB1.out.size; have := HEB.out; omega) (fun k hk => by cases hk; omega))
  have hgJ := putL_gr' B [.int .u16 j1.v, .int .u16 j1.x, .int .u16 j1.l, .int .i64 j1.e, .int .i64 j1.k, .int .u16 j2.v, .int .u16 j2.x, .int .u16 j2.l, .int .i64 j2.e, .int .i64 j2.k, .bool f] 0 w3
  obtain ⟨w4, ew4⟩ : ∃ x : World, putL B 0 [.int .u16 j1.v, .int .u16 j1.x, .int .u16 j1.l, .int .i64 j1.e, .int .i64 j1.k, .int .u16 j2.v, .int .u16 j2.x, .int .u16 j2.l, .int .i64 j2.e, .int .i64 j2.k, .bool f] w3 = x := ⟨_, rfl⟩
  obtain ⟨-, pr, cr, hRr, -⟩ := H3.out.r
  have hRr4 := rd_stays hgJ hRr (by omega)
  rw [ew4] at hJb hgJ hRr4
  have hJ4 : w4.heap[B]? = some (.cells #[.int .u16 j1.v, .int .u16 j1.x, .int .u16 j1.l, .int .i64 j1.e, .int .i64 j1.k, .int .u16 j2.v, .int .u16 j2.x, .int .u16 j2.l, .int .i64 j2.e, .int .i64 j2.k, .bool f] 42 (0, 0)) := by rw [← ew4]; exact hJ
  simp only [putL, Nat.reduceAdd, Nat.zero_add] at ew4
  have HJ4 := Lib.hid hJ4; have HJB := Lib.hid hJb; have HRR := Lib.hid hRr4; have HW4 := Lib.hid ew4
  clear hJ hJb hgJ hRr hJ4 hRr4 ew4 H3 G3 HB1
  go_upto_region 3 with fail
  rw [HW4.out]
  clear kz fz HZ3 HW4
  have kR := block_cells HRR.out
  have kz := block_cells HJ4.out
  have fz := block_free HJ4.out
  cases b3 with
  | true =>
    have HNO : Hid (∀ j ys, JoF j → encJo j ++ ys ≠ X0) := fun j ys hj e => by
      have hc := rdJo_ok.compl j ys hj
      rw [e, HRD.out] at hc
      simp at hc
    go_wp2_with fail
    have hzF := putL_at HJ4.out [.int .u16 0, .int .u16 0, .int .u16 0, .int .i64 0, .int .i64 0, .int .u16 0, .int .u16 0, .int .u16 0, .int .i64 0, .int .i64 0, .bool false] rfl
    have hbF := putL_bel (g := B) (Nat.le_refl B) [.int .u16 0, .int .u16 0, .int .u16 0, .int .i64 0, .int .i64 0, .int .u16 0, .int .u16 0, .int .u16 0, .int .i64 0, .int .i64 0, .bool false] 0 HJB.out
    simp only [putL, Nat.reduceAdd, Nat.zero_add] at hzF hbF
    have kF := block_cells hzF
    refine bodyPost_ret (v := .tuple #[.agg #[.int .u16 0, .int .u16 0, .int .u16 0, .int .i64 0, .int .i64 0, .int .u16 0, .int .u16 0, .int .u16 0, .int .i64 0, .int .i64 0, .bool false], .int .i64 0, .int .i64 9]) ?_ rfl ⟨by rw [HEB.out]; exact hbF, .inr ⟨HNO.out, rfl⟩⟩
    simp [results, Try.results80, go_sem, kF]
  | false =>
    obtain ⟨hjf, hxe⟩ := rdJo_ok.sound X0 _ _ HOC.out HRD.out
    have HX := Lib.hid (And.intro hjf hxe)
    have hd : (X0.length : Int) - (X3.length : Int) = ((encJo ⟨j1, j2, f⟩).length : Int) := by rw [hxe, List.length_append]; omega
    have HD := Lib.hid hd
    have hw : IntKind.i64.wrap ((X0.length : Int) - (X3.length : Int)) = (X0.length : Int) - (X3.length : Int) := by rw [IntKind.wrap_i64]; omega
    clear hd hjf hxe
    go_upto_region 5 with fail
    clear kR kz fz
    have kR : ∀ w' : World, (w'.heap[B]? = some (.cells #[.int .u16 j1.v, .int .u16 j1.x, .int .u16 j1.l, .int .i64 j1.e, .int .i64 j1.k, .int .u16 j2.v, .int .u16 j2.x, .int .u16 j2.l, .int .i64 j2.e, .int .i64 j2.k, .bool f] 42 (0, 0)) ∧ w'.heap[R]? = some (.cells #[.slice pr X3.length cr, .bool false] 134 (0, 0))) → ∀ j, w'.cell? ⟨R, j, none⟩ = #[.slice pr X3.length cr, .bool false][j]? := fun w' h => block_cells h.2
    have kz : ∀ w' : World, (w'.heap[B]? = some (.cells #[.int .u16 j1.v, .int .u16 j1.x, .int .u16 j1.l, .int .i64 j1.e, .int .i64 j1.k, .int .u16 j2.v, .int .u16 j2.x, .int .u16 j2.l, .int .i64 j2.e, .int .i64 j2.k, .bool f] 42 (0, 0)) ∧ w'.heap[R]? = some (.cells #[.slice pr X3.length cr, .bool false] 134 (0, 0))) → ∀ j, w'.cell? ⟨B, j, none⟩ = #[.int .u16 j1.v, .int .u16 j1.x, .int .u16 j1.l, .int .i64 j1.e, .int .i64 j1.k, .int .u16 j2.v, .int .u16 j2.x, .int .u16 j2.l, .int .i64 j2.e, .int .i64 j2.k, .bool f][j]? := fun w' h => block_cells h.1
    have t0 : w4.drew.heap[B]? = some (.cells #[.int .u16 j1.v, .int .u16 j1.x, .int .u16 j1.l, .int .i64 j1.e, .int .i64 j1.k, .int .u16 j2.v, .int .u16 j2.x, .int .u16 j2.l, .int .i64 j2.e, .int .i64 j2.k, .bool f] 42 (0, 0)) ∧ w4.drew.heap[R]? = some (.cells #[.slice pr X3.length cr, .bool false] 134 (0, 0)) := ⟨HJ4.out, HRR.out⟩
    have hbd : Below B w w4.drew := HJB.out.drew
    refine wp_region_held_drew (S := fun w' => w'.heap[B]? = some (.cells #[.int .u16 j1.v, .int .u16 j1.x, .int .u16 j1.l, .int .i64 j1.e, .int .i64 j1.k, .int .u16 j2.v, .int .u16 j2.x, .int .u16 j2.l, .int .i64 j2.e, .int .i64 j2.k, .bool f] 42 (0, 0)) ∧ w'.heap[R]? = some (.cells #[.slice pr X3.length cr, .bool false] 134 (0, 0))) (by kernel_rfl) t0 (fun hHeld => ?_)
    obtain ⟨wd, ewd⟩ : ∃ x, w4.drew = x := ⟨_, rfl⟩
    rw [ewd] at t0 hHeld hbd ⊢
    clear ewd
    refine wpAnyH_take (i := 0) (v := ?_) rfl (by kernel_rfl) (by kernel_rfl) (by kernel_rfl) (fun _ _ _ h => h) (Or.inl ⟨by rfl, ?_⟩) hHeld ?_
    rotate_left
    · (intro wz hSw; (try dsimp only at hSw); (try simp only [List.getElem_toArray, List.getElem_cons_zero]); go_simp; try with_reducible rfl)
    try simp only [List.getElem_toArray, List.getElem_cons_zero, Act.put, List.setIfInBounds_toArray, List.set_cons_zero, List.set_cons_succ]
    refine wpAnyH_take (i := 1) (v := ?_) rfl (by kernel_rfl) (by kernel_rfl) (by kernel_rfl) (fun _ _ _ h => h) (Or.inl ⟨by rfl, ?_⟩) hHeld ?_
    rotate_left
    · (intro wz hSw; (try dsimp only at hSw); (try simp only [List.getElem_toArray, List.getElem_cons_succ, List.getElem_cons_zero]); go_simp; try with_reducible rfl)
    try simp only [List.getElem_toArray, List.getElem_cons_succ, List.getElem_cons_zero, Act.put, List.setIfInBounds_toArray, List.set_cons_zero, List.set_cons_succ]
    refine wpAnyH_take (i := 2) (v := ?_) rfl (by kernel_rfl) (by kernel_rfl) (by kernel_rfl) (fun _ _ _ h => h) (Or.inl ⟨by rfl, ?_⟩) hHeld ?_
    rotate_left
    · (intro wz hSw; (try dsimp only at hSw); (try simp only [List.getElem_toArray, List.getElem_cons_succ, List.getElem_cons_zero]); go_simp; try with_reducible rfl)
    try simp only [List.getElem_toArray, List.getElem_cons_succ, List.getElem_cons_zero, Act.put, List.setIfInBounds_toArray, List.set_cons_zero, List.set_cons_succ]
    refine wpAnyH_take (i := 3) (v := ?_) rfl (by kernel_rfl) (by kernel_rfl) (by kernel_rfl) (fun _ _ _ h => h) (Or.inl ⟨by rfl, ?_⟩) hHeld ?_
    rotate_left
    · (intro wz hSw; (try dsimp only at hSw); (try simp only [List.getElem_toArray, List.getElem_cons_succ, List.getElem_cons_zero]); go_simp; try with_reducible rfl)
    try simp only [List.getElem_toArray, List.getElem_cons_succ, List.getElem_cons_zero, Act.put, List.setIfInBounds_toArray, List.set_cons_zero, List.set_cons_succ]
    refine wpAnyH_take (i := 4) (v := ?_) rfl (by kernel_rfl) (by kernel_rfl) (by kernel_rfl) (fun _ _ _ h => h) (Or.inl ⟨by rfl, ?_⟩) hHeld ?_
    rotate_left
    · (intro wz hSw; (try dsimp only at hSw); (try simp only [List.getElem_toArray, List.getElem_cons_succ, List.getElem_cons_zero]); go_simp; try with_reducible rfl)
    try simp only [List.getElem_toArray, List.getElem_cons_succ, List.getElem_cons_zero, Act.put, List.setIfInBounds_toArray, List.set_cons_zero, List.set_cons_succ]
    refine wpAnyH_take (i := 5) (v := ?_) rfl (by kernel_rfl) (by kernel_rfl) (by kernel_rfl) (fun _ _ _ h => h) (Or.inl ⟨by rfl, ?_⟩) hHeld ?_
    rotate_left
    · (intro wz hSw; (try dsimp only at hSw); (try simp only [List.getElem_toArray, List.getElem_cons_succ, List.getElem_cons_zero]); go_simp; try with_reducible rfl)
    try simp only [List.getElem_toArray, List.getElem_cons_succ, List.getElem_cons_zero, Act.put, List.setIfInBounds_toArray, List.set_cons_zero, List.set_cons_succ]
    refine wpAnyH_take (i := 6) (v := ?_) rfl (by kernel_rfl) (by kernel_rfl) (by kernel_rfl) (fun _ _ _ h => h) (Or.inl ⟨by rfl, ?_⟩) hHeld ?_
    rotate_left
    · (intro wz hSw; (try dsimp only at hSw); (try simp only [List.getElem_toArray, List.getElem_cons_succ, List.getElem_cons_zero]); go_simp; try with_reducible rfl)
    try simp only [List.getElem_toArray, List.getElem_cons_succ, List.getElem_cons_zero, Act.put, List.setIfInBounds_toArray, List.set_cons_zero, List.set_cons_succ]
    refine wpAnyH_take (i := 7) (v := ?_) rfl (by kernel_rfl) (by kernel_rfl) (by kernel_rfl) (fun _ _ _ h => h) (Or.inl ⟨by rfl, ?_⟩) hHeld ?_
    rotate_left
    · (intro wz hSw; (try dsimp only at hSw); (try simp only [List.getElem_toArray, List.getElem_cons_succ, List.getElem_cons_zero]); go_simp; try with_reducible rfl)
    try simp only [List.getElem_toArray, List.getElem_cons_succ, List.getElem_cons_zero, Act.put, List.setIfInBounds_toArray, List.set_cons_zero, List.set_cons_succ]
    refine wpAnyH_take (i := 8) (v := ?_) rfl (by kernel_rfl) (by kernel_rfl) (by kernel_rfl) (fun _ _ _ h => h) (Or.inl ⟨by rfl, ?_⟩) hHeld ?_
    rotate_left
    · (intro wz hSw; (try dsimp only at hSw); (try simp only [List.getElem_toArray, List.getElem_cons_succ, List.getElem_cons_zero]); go_simp; try with_reducible rfl)
    try simp only [List.getElem_toArray, List.getElem_cons_succ, List.getElem_cons_zero, Act.put, List.setIfInBounds_toArray, List.set_cons_zero, List.set_cons_succ]
    have kg := block_cells t0.1
    have fg := block_free t0.1
    refine wpAnyH_ready (rs := [9]) (by kernel_rfl) (by simp) ?_; refine AllReadyH.cons rfl (fun K hK => ?_) AllReadyH.nil; (try simp only [List.getElem_toArray, List.getElem_cons_succ, List.getElem_cons_zero]); go_simp
    have hzF := putL_at t0.1 [.int .u16 j1.v, .int .u16 j1.x, .int .u16 j1.l, .int .i64 j1.e, .int .i64 j1.k, .int .u16 j2.v, .int .u16 j2.x, .int .u16 j2.l, .int .i64 j2.e, .int .i64 j2.k, .bool f] rfl
    have hbF := putL_bel (g := B) (Nat.le_refl B) [.int .u16 j1.v, .int .u16 j1.x, .int .u16 j1.l, .int .i64 j1.e, .int .i64 j1.k, .int .u16 j2.v, .int .u16 j2.x, .int .u16 j2.l, .int .i64 j2.e, .int .i64 j2.k, .bool f] 0 hbd
    have hRF := (putL_far (g := B) (k := R) (by omega) [.int .u16 j1.v, .int .u16 j1.x, .int .u16 j1.l, .int .i64 j1.e, .int .i64 j1.k, .int .u16 j2.v, .int .u16 j2.x, .int .u16 j2.l, .int .i64 j2.e, .int .i64 j2.k, .bool f] 0 wd).trans t0.2
    simp only [putL, Nat.reduceAdd, Nat.zero_add] at hzF hbF hRF
    refine hK.out _ _ ⟨hzF, hRF⟩ (fun _ => ?_)
    clear hK K hHeld kg fg
    try simp only [List.getElem_toArray, List.getElem_cons_succ, List.getElem_cons_zero, Act.put, List.setIfInBounds_toArray, List.set_cons_zero, List.set_cons_succ]
    have hHeld := And.intro hzF hRF
    refine wpAnyH_take (i := 10) (v := ?_) rfl (by kernel_rfl) (by kernel_rfl) (by kernel_rfl) (fun _ _ _ h => h) (Or.inl ⟨by rfl, ?_⟩) hHeld ?_
    rotate_left
    · (intro wz hSw; (try dsimp only at hSw); (try simp only [List.getElem_toArray, List.getElem_cons_succ, List.getElem_cons_zero]); go_simp; try with_reducible rfl)
    try simp only [List.getElem_toArray, List.getElem_cons_succ, List.getElem_cons_zero, Act.put, List.setIfInBounds_toArray, List.set_cons_zero, List.set_cons_succ]
    refine wpAnyH_take (i := 11) (v := ?_) rfl (by kernel_rfl) (by kernel_rfl) (by kernel_rfl) (fun _ _ _ h => h) (Or.inl ⟨by rfl, ?_⟩) hHeld ?_
    rotate_left
    · (intro wz hSw; (try dsimp only at hSw); (try simp only [List.getElem_toArray, List.getElem_cons_succ, List.getElem_cons_zero]); go_simp; try with_reducible rfl)
    try simp only [List.getElem_toArray, List.getElem_cons_succ, List.getElem_cons_zero, Act.put, List.setIfInBounds_toArray, List.set_cons_zero, List.set_cons_succ]
    refine wpAnyH_done (by kernel_rfl) ?_ _
    have kF := block_cells hzF
    go_wp2_with fail
    refine bodyPost_ret (v := .tuple #[.agg #[.int .u16 j1.v, .int .u16 j1.x, .int .u16 j1.l, .int .i64 j1.e, .int .i64 j1.k, .int .u16 j2.v, .int .u16 j2.x, .int .u16 j2.l, .int .i64 j2.e, .int .i64 j2.k, .bool f], .int .i64 ((X0.length : Int) - (X3.length : Int)), .int .i64 0]) ?_ rfl ⟨by rw [HEB.out]; exact hbF, .inl ⟨⟨j1, j2, f⟩, X3, HX.out.2.symm, HX.out.1, by rw [HD.out]⟩⟩
    simp [results, Try.results80, go_sem, kF]
end Go.Proofs.Ytjaabakobpabjaa
