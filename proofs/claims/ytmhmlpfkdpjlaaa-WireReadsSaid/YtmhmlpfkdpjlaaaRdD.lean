/- Wire: package wire's closure that reads a cell and appends it. -/
import Derived.Test.YtmhmlpfkdpjlaaaRdC
namespace Go.Proofs.Ytmhmlpfkdpjlaaa
open Go.ChangeShapes Go.WideShapes Go.ChangeAt Go.RowKit

def ceR (l : List CeL) : List Value := l.flatMap fun s => [.string s.1.k, .slice s.2.1 s.1.vs.length s.2.2, .bool s.1.lk, .int .i64 s.1.yn, .int .i64 s.1.yl, .int .i64 s.1.ys, .int .i64 s.1.ya, .int .i64 s.1.hm, .int .i64 s.1.sw, .int .i64 s.1.st, .bool s.1.lr, .string s.1.ld]
/-- A cell's versions, in a row of the call's own. -/
def VeO (base : Nat) (w : World) (x : CeL) : Prop := w.ownsRow base 78 4 (.slice x.2.1 x.1.vs.length x.2.2) x.1.vs.length (veR x.1.vs)
def CesJ (B R T g base : Nat) (w0 wS : World) (cs : Value → Array Value) (tc : TypeId) (acc : List CeX) (w : World) : Prop := ∃ L : List CeL, L.map (·.1) = acc ∧ LsJ B R T g base w0 wS cs tc 75 12 ceR L w ∧ ∀ x ∈ L, VeO base w x
theorem VeO.kept {base k : Nat} {w w' : World} {x : CeL} (h : VeO base w x) (hg : w.grownBy w' (some k)) (hk : k < base) : VeO base w' x := World.ownsRow.kept h hg (by
  cases e : (Value.slice x.2.1 x.1.vs.length x.2.2).ownBlock with
  | none => exact .inl rfl
  | some y => exact .inr fun h2 => by have := (h.lt y e).1; simp only [Option.some.injEq] at h2; omega)
theorem own_apart {w : World} {b1 b2 : Nat} {e1 e2 : TypeId} {s1 s2 n1 n2 : Nat} {v1 v2 : Value} {xs1 xs2 : List Value} (h1 : w.ownsRow b1 e1 s1 v1 n1 xs1) (h2 : w.ownsRow b2 e2 s2 v2 n2 xs2) (he : e1 ≠ e2) : v1.ownBlock = none ∨ v1.ownBlock ≠ v2.ownBlock := by
  rcases h1.2 with ⟨rfl, -⟩ | ⟨g1, c1, cur1, rfl, -, q1, -⟩
  · exact .inl rfl
  · refine .inr fun h => ?_
    rcases h2.2 with ⟨rfl, -⟩ | ⟨g2, c2, cur2, rfl, -, q2, -⟩
    · simp [Value.ownBlock] at h
    · simp only [Value.ownBlock, Option.some.injEq] at h
      subst h
      rw [q1] at q2
      simp only [Option.some.injEq, Obj.cells.injEq] at q2
      exact he q2.2.1
theorem VeO.keptRow {base : Nat} {w w' : World} {x : CeL} {v : Value} {n b2 s2 : Nat} {xs : List Value} (h : VeO base w x) (hg : w.grownBy w' v.ownBlock) (ho : w.ownsRow b2 75 s2 v n xs) : VeO base w' x :=
  World.ownsRow.kept h hg (own_apart h ho (by decide))
theorem CesJ.row {B R T g base : Nat} {w0 wS : World} {cs : Value → Array Value} {tc : TypeId} {acc : List CeX} {w w' : World} {n : Nat} (h : CesJ B R T g base w0 wS cs tc acc w) (p : LsP n R T g base) (hg : w.grownBy w' (some R)) : CesJ B R T g base w0 wS cs tc acc w' := by
  obtain ⟨L, e, j, hv⟩ := h
  exact ⟨L, e, j.row p hg, fun x hx => (hv x hx).kept hg (by have := p.rg; have := p.gb; omega)⟩
theorem cutPc {R P : Nat → Option Addr → Nat → World → Prop} {Q : Prop} (h : (∀ g p c w, R g p c w → P g p c w) → Q) (p : ∀ g p c w, R g p c w → P g p c w) : Q := h p
set_option maxRecDepth 100000 in
set_option maxHeartbeats 8000000 in
theorem partCe_any (B R T g base : Nat) (w0 wS : World) (x0 x1 x2 x3 x4 x5 x7 x8 : Value) (acc : List CeX) (ys : List Int) (b : Bool) (w : World) (P : LsP w0.heap.size R T g base) (hl : acc.length ≤ 65536) (h : RdW B w R ys b) (hJ : CesJ B R T g base w0 wS (fun v => #[x0, x1, x2, x3, x4, x5, v, x7, x8]) 33 acc w) :
    Calls Try.prog 72 #[.pointer (some ⟨g, 0, none⟩), .pointer (some ⟨T, 0, none⟩)] w fun e w' => e = .returned (.tuple #[]) ∧ RdW B w' R (rdCe ys b).2.1 (rdCe ys b).2.2 ∧ CesJ B R T g base w0 wS (fun v => #[x0, x1, x2, x3, x4, x5, v, x7, x8]) 33 (acc ++ [(rdCe ys b).1]) w' := by
  obtain ⟨ng, rt, rg, gt, gb, tb⟩ := P
  obtain ⟨L, eL, ⟨⟨v, hg, ho⟩, hT, hB, hz, hkp⟩, hV⟩ := hJ
  have hlL : L.length ≤ 65536 := by rw [← eL, List.length_map] at hl; exact hl
  obtain ⟨⟨x, X1, b1⟩, hr1⟩ : ∃ r, rdCe ys b = r := ⟨_, rfl⟩
  have C1 : Hid (∀ w', RdW B w' R ys b → Calls Try.prog 73 #[.pointer (some ⟨R, 0, none⟩)] w' fun e w'' => ∃ p c, e = .returned (.agg #[.string x.k, .slice p x.vs.length c, .bool x.lk, .int .i64 x.yn, .int .i64 x.yl, .int .i64 x.ys, .int .i64 x.ya, .int .i64 x.hm, .int .i64 x.sw, .int .i64 x.st, .bool x.lr, .string x.ld]) ∧ w''.ownsRow w'.heap.size 78 4 (.slice p x.vs.length c) x.vs.length (veR x.vs) ∧ RdW B w'' R X1 b1 ∧ w'.grownBy w'' (some R)) := fun w' h => by
    have := rcellW_any B R ys b w' h; rw [hr1] at this; exact this
  have HR := Lib.hid hr1
  have H0 := Lib.hid h; have HT := Lib.hid hT; have HG := Lib.hid hg; have HO := Lib.hid ho; have HB := Lib.hid hB; have HV := Lib.hid hV; have HEL := Lib.hid eL
  obtain ⟨i0, hi, hz0, hz1, hz2⟩ := info_parts Try.infoCe
  clear h hT hg ho hB hr1 hV eL hl
  go_enter Try.func72, Try.ntmps72
  have kT : ∀ w', KpB base R g w w' → ∀ j, w'.cell? ⟨T, j, none⟩ = #[.pointer (some ⟨R, 0, none⟩)][j]? := fun w' h => block_cells ((h T (by omega) (by omega) (by omega)).trans HT.out)
  have KG : Hid (∀ w', w.grownBy w' (some R) → ∀ j, w'.cell? ⟨g, j, none⟩ = #[x0, x1, x2, x3, x4, x5, v, x7, x8][j]?) := fun w' h => block_cells (rd_stays h HG.out (by omega))
  have g0 : w.grownBy w.drew (some R) := grown_drewW (grown_refl w _)
  have r0 := H0.out.drew
  refine wp_region_held_drew (S := fun w' => KpB base R g w w') (by kernel_rfl) (kpB_gr hz g0) (fun hHeld => ?_)
  obtain ⟨wd, ewd⟩ : ∃ x, w.drew = x := ⟨_, rfl⟩
  rw [ewd] at g0 r0 hHeld ⊢
  clear ewd
  refine wpAnyH_take (i := 0) (v := ?_) rfl (by kernel_rfl) (by kernel_rfl) (by kernel_rfl) (fun _ _ _ h => h) (Or.inl ⟨by rfl, ?_⟩) hHeld ?_
  rotate_left
  · (intro wz hSw; (try dsimp only at hSw); (try simp only [List.getElem_toArray, List.getElem_cons_zero]); go_simp; try with_reducible rfl)
  try simp only [List.getElem_toArray, List.getElem_cons_zero, Act.put, List.setIfInBounds_toArray, List.set_cons_zero, List.set_cons_succ]
  refine wpAnyH_take (i := 2) (v := ?_) rfl (by kernel_rfl) (by kernel_rfl) (by kernel_rfl) (fun _ _ _ h => h) (Or.inl ⟨by rfl, ?_⟩) hHeld ?_
  rotate_left
  · (intro wz hSw; (try dsimp only at hSw); (try simp only [List.getElem_toArray, List.getElem_cons_succ, List.getElem_cons_zero]); go_simp; try with_reducible rfl)
  try simp only [List.getElem_toArray, List.getElem_cons_succ, List.getElem_cons_zero, Act.put, List.setIfInBounds_toArray, List.set_cons_zero, List.set_cons_succ]
  clear hHeld
  apply cutPc (R := fun G p c w' => w.grownBy w' (some R) ∧ RdW B w' R X1 b1 ∧ w'.heap[G]? = some (.cells [.string x.k, .slice p x.vs.length c, .bool x.lk, .int .i64 x.yn, .int .i64 x.yl, .int .i64 x.ys, .int .i64 x.ya, .int .i64 x.hm, .int .i64 x.sw, .int .i64 x.st, .bool x.lr, .string x.ld].toArray 75 (0, 0)) ∧ VeO base w' (x, p, c))
  · intro hcut
    have hHeld := kpB_gr (g := g) hz g0
    refine wpAnyH_ready (rs := [1, 3]) (by kernel_rfl) (by simp) ?_
    refine AllReadyH.cons rfl (fun K hK => ?_) (AllReadyH.cons rfl (fun K hK => ?_) AllReadyH.nil)
    · skip
      try simp only [List.getElem_toArray, List.getElem_cons_succ, List.getElem_cons_zero]
      have kg := KG.out wd g0
      go_simp
      clear kg
      refine hK.out _ _ hHeld (fun _ => ?_)
      clear hK K
      try simp only [List.getElem_toArray, List.getElem_cons_succ, List.getElem_cons_zero, Act.put, List.setIfInBounds_toArray, List.set_cons_zero, List.set_cons_succ]
      refine wpAnyH_ready (rs := [3]) (by kernel_rfl) (by simp) ?_
      refine AllReadyH.cons rfl (fun K hK => ?_) AllReadyH.nil
      try simp only [List.getElem_toArray, List.getElem_cons_succ, List.getElem_cons_zero]
      go_simp
      refine (C1.out _ r0).mono ?_; rintro r w2 ⟨p, c, rfl, oo2, r2, k2⟩
      have g2 := grown_transW g0 k2
      have o2 : VeO base w2 (x, p, c) := World.ownsRow.mono oo2 (Nat.le_trans hz g0.size)
      refine hK.out _ _ (kpB_gr hz g2) (fun _ => ?_)
      clear hK K hHeld oo2
      try simp only [List.getElem_toArray, List.getElem_cons_succ, List.getElem_cons_zero, Act.put, List.setIfInBounds_toArray, List.set_cons_zero, List.set_cons_succ]
      have hHeld := kpB_gr (g := g) hz g2
      refine wpAnyH_ready (rs := [4]) (by kernel_rfl) (by simp) ?_
      refine AllReadyH.cons rfl (fun K hK => ?_) AllReadyH.nil
      try simp only [List.getElem_toArray, List.getElem_cons_succ, List.getElem_cons_zero]
      go_simp
      obtain ⟨wb3, ew3⟩ : ∃ x' : World, w2.alloc (.cells #[.string x.k, .slice p x.vs.length c, .bool x.lk, .int .i64 x.yn, .int .i64 x.yl, .int .i64 x.ys, .int .i64 x.ya, .int .i64 x.hm, .int .i64 x.sw, .int .i64 x.st, .bool x.lr, .string x.ld] 75) = x' := ⟨_, rfl⟩
      have bl3 : Below w2.heap.size w2 wb3 := by rw [← ew3]; exact (Below.refl _ _).alloc (Nat.le_refl _) _
      have q3 : wb3.heap[w2.heap.size]? = some (.cells [.string x.k, .slice p x.vs.length c, .bool x.lk, .int .i64 x.yn, .int .i64 x.yl, .int .i64 x.ys, .int .i64 x.ya, .int .i64 x.hm, .int .i64 x.sw, .int .i64 x.st, .bool x.lr, .string x.ld].toArray 75 (0, 0)) := by rw [← ew3]; exact heap_last w2 _
      have g3 := grown_transW g2 (grown_below bl3 (some R))
      have r3 := r2.keep bl3 (Nat.le_refl _)
      have o3 := o2.kept (grown_below bl3 (some R)) (show R < base by omega)
      rw [ew3]
      obtain ⟨G, eG3⟩ : ∃ n, w2.heap.size = n := ⟨_, rfl⟩
      try rw [eG3]
      rw [eG3] at q3
      refine hK.out _ _ (kpB_gr hz g3) (fun _ => ?_)
      clear hK K hHeld ew3
      try simp only [List.getElem_toArray, List.getElem_cons_succ, List.getElem_cons_zero, Act.put, List.setIfInBounds_toArray, List.set_cons_zero, List.set_cons_succ]
      have hHeld := kpB_gr (g := g) hz g3
      exact hcut G p c wb3 ⟨g3, r3, q3, o3⟩
    · skip
      try simp only [List.getElem_toArray, List.getElem_cons_succ, List.getElem_cons_zero]
      go_simp
      refine (C1.out _ r0).mono ?_; rintro r w4 ⟨p, c, rfl, oo4, r4, k4⟩
      have g4 := grown_transW g0 k4
      have o4 : VeO base w4 (x, p, c) := World.ownsRow.mono oo4 (Nat.le_trans hz g0.size)
      refine hK.out _ _ (kpB_gr hz g4) (fun _ => ?_)
      clear hK K hHeld oo4
      try simp only [List.getElem_toArray, List.getElem_cons_succ, List.getElem_cons_zero, Act.put, List.setIfInBounds_toArray, List.set_cons_zero, List.set_cons_succ]
      have hHeld := kpB_gr (g := g) hz g4
      refine wpAnyH_ready (rs := [1, 4]) (by kernel_rfl) (by simp) ?_
      refine AllReadyH.cons rfl (fun K hK => ?_) (AllReadyH.cons rfl (fun K hK => ?_) AllReadyH.nil)
      · skip
        try simp only [List.getElem_toArray, List.getElem_cons_succ, List.getElem_cons_zero]
        have kg := KG.out w4 g4
        go_simp
        clear kg
        refine hK.out _ _ hHeld (fun _ => ?_)
        clear hK K
        try simp only [List.getElem_toArray, List.getElem_cons_succ, List.getElem_cons_zero, Act.put, List.setIfInBounds_toArray, List.set_cons_zero, List.set_cons_succ]
        refine wpAnyH_ready (rs := [4]) (by kernel_rfl) (by simp) ?_
        refine AllReadyH.cons rfl (fun K hK => ?_) AllReadyH.nil
        try simp only [List.getElem_toArray, List.getElem_cons_succ, List.getElem_cons_zero]
        go_simp
        obtain ⟨wb6, ew6⟩ : ∃ x' : World, w4.alloc (.cells #[.string x.k, .slice p x.vs.length c, .bool x.lk, .int .i64 x.yn, .int .i64 x.yl, .int .i64 x.ys, .int .i64 x.ya, .int .i64 x.hm, .int .i64 x.sw, .int .i64 x.st, .bool x.lr, .string x.ld] 75) = x' := ⟨_, rfl⟩
        have bl6 : Below w4.heap.size w4 wb6 := by rw [← ew6]; exact (Below.refl _ _).alloc (Nat.le_refl _) _
        have q6 : wb6.heap[w4.heap.size]? = some (.cells [.string x.k, .slice p x.vs.length c, .bool x.lk, .int .i64 x.yn, .int .i64 x.yl, .int .i64 x.ys, .int .i64 x.ya, .int .i64 x.hm, .int .i64 x.sw, .int .i64 x.st, .bool x.lr, .string x.ld].toArray 75 (0, 0)) := by rw [← ew6]; exact heap_last w4 _
        have g6 := grown_transW g4 (grown_below bl6 (some R))
        have r6 := r4.keep bl6 (Nat.le_refl _)
        have o6 := o4.kept (grown_below bl6 (some R)) (show R < base by omega)
        rw [ew6]
        obtain ⟨G, eG6⟩ : ∃ n, w4.heap.size = n := ⟨_, rfl⟩
        try rw [eG6]
        rw [eG6] at q6
        refine hK.out _ _ (kpB_gr hz g6) (fun _ => ?_)
        clear hK K hHeld ew6
        try simp only [List.getElem_toArray, List.getElem_cons_succ, List.getElem_cons_zero, Act.put, List.setIfInBounds_toArray, List.set_cons_zero, List.set_cons_succ]
        have hHeld := kpB_gr (g := g) hz g6
        exact hcut G p c wb6 ⟨g6, r6, q6, o6⟩
      · skip
        try simp only [List.getElem_toArray, List.getElem_cons_succ, List.getElem_cons_zero]
        go_simp
        obtain ⟨wb7, ew7⟩ : ∃ x' : World, w4.alloc (.cells #[.string x.k, .slice p x.vs.length c, .bool x.lk, .int .i64 x.yn, .int .i64 x.yl, .int .i64 x.ys, .int .i64 x.ya, .int .i64 x.hm, .int .i64 x.sw, .int .i64 x.st, .bool x.lr, .string x.ld] 75) = x' := ⟨_, rfl⟩
        have bl7 : Below w4.heap.size w4 wb7 := by rw [← ew7]; exact (Below.refl _ _).alloc (Nat.le_refl _) _
        have q7 : wb7.heap[w4.heap.size]? = some (.cells [.string x.k, .slice p x.vs.length c, .bool x.lk, .int .i64 x.yn, .int .i64 x.yl, .int .i64 x.ys, .int .i64 x.ya, .int .i64 x.hm, .int .i64 x.sw, .int .i64 x.st, .bool x.lr, .string x.ld].toArray 75 (0, 0)) := by rw [← ew7]; exact heap_last w4 _
        have g7 := grown_transW g4 (grown_below bl7 (some R))
        have r7 := r4.keep bl7 (Nat.le_refl _)
        have o7 := o4.kept (grown_below bl7 (some R)) (show R < base by omega)
        rw [ew7]
        obtain ⟨G, eG7⟩ : ∃ n, w4.heap.size = n := ⟨_, rfl⟩
        try rw [eG7]
        rw [eG7] at q7
        refine hK.out _ _ (kpB_gr hz g7) (fun _ => ?_)
        clear hK K hHeld ew7
        try simp only [List.getElem_toArray, List.getElem_cons_succ, List.getElem_cons_zero, Act.put, List.setIfInBounds_toArray, List.set_cons_zero, List.set_cons_succ]
        have hHeld := kpB_gr (g := g) hz g7
        refine wpAnyH_ready (rs := [1]) (by kernel_rfl) (by simp) ?_
        refine AllReadyH.cons rfl (fun K hK => ?_) AllReadyH.nil
        try simp only [List.getElem_toArray, List.getElem_cons_succ, List.getElem_cons_zero]
        have kg := KG.out wb7 g7
        go_simp
        clear kg
        refine hK.out _ _ hHeld (fun _ => ?_)
        clear hK K
        try simp only [List.getElem_toArray, List.getElem_cons_succ, List.getElem_cons_zero, Act.put, List.setIfInBounds_toArray, List.set_cons_zero, List.set_cons_succ]
        exact hcut G p c wb7 ⟨g7, r7, q7, o7⟩
  intro G p c wL hR
  obtain ⟨gL, rL, qL, oL⟩ := hR
  have hHeld := kpB_gr (g := g) hz gL
  refine wpAnyH_ready (rs := [5]) (by kernel_rfl) (by simp) ?_; refine AllReadyH.cons rfl (fun K hK => ?_) AllReadyH.nil
  rw [if_pos (by rfl)]
  have hne : v.ownBlock = none ∨ v.ownBlock ≠ some R := by
    cases e : v.ownBlock with
    | none => exact .inl rfl
    | some y => exact .inr fun h => by have := (HO.out.lt y e).1; simp only [Option.some.injEq] at h; omega
  have hoL := HO.out.kept gL hne
  refine wp_append_one _ _ 30 (by rfl) base 75 i0 _ 12 128 Try.underlying30 hi hz0 hz1 hz2 rfl (by decide) v L.length (ceR L) (by rfl) hoL G [.string x.k, .slice p x.vs.length c, .bool x.lk, .int .i64 x.yn, .int .i64 x.yl, .int .i64 x.ys, .int .i64 x.ya, .int .i64 x.hm, .int .i64 x.sw, .int .i64 x.st, .bool x.lr, .string x.ld] 75 (by rfl) qL rfl (by intro u hu; simp only [List.mem_cons, List.not_mem_nil, or_false] at hu; rcases hu with rfl | rfl | rfl | rfl | rfl | rfl | rfl | rfl | rfl | rfl | rfl | rfl <;> rfl) (by unfold maxLen; omega) (by omega) (Nat.le_trans hz gL.size) ?_
  intro v2 wA ho2 hg2 hat
  obtain ⟨g2, cap2, hv2⟩ : ∃ g2 cap2, v2 = .slice (some ⟨g2, 0, none⟩) (L.length + 1) cap2 := by
    rcases ho2.2 with ⟨-, h⟩ | ⟨g2, cap2, cur2, e, -⟩
    · omega
    · exact ⟨g2, cap2, e⟩
  subst hv2
  have rB : ∀ k, v.ownBlock = some k → base ≤ k := fun k hk => (HO.out.lt k hk).1
  have hGL := rd_stays gL HG.out (by omega)
  have hTL := rd_stays gL HT.out (by omega)
  have rA := rL.row hg2 (fun k hk => by have := rB k hk; omega)
  have hGA := (hg2.block g (block_lt hGL) (fun e => by have := rB g e.symm; omega)).trans hGL
  have hTA := (hg2.block T (block_lt hTL) (fun e => by have := rB T e.symm; omega)).trans hTL
  have hBA : w0.grownBy wA (some R) := grown_row (grown_transW HB.out gL) hg2 (fun k hk => by have := rB k hk; omega)
  have hzA : base ≤ wA.heap.size := Nat.le_trans hz (Nat.le_trans gL.size hg2.size)
  have hVA : ∀ z ∈ L, VeO base wA z := fun z hz' => ((HV.out z hz').kept gL (by omega)).keptRow hg2 hoL
  have hXA : VeO base wA (x, p, c) := oL.keptRow hg2 hoL
  have hSA : KpB base R g w wA := fun k hk hr hgk => (hg2.block k (by have := gL.size; omega) (fun e => by have := rB k e.symm; omega)).trans (hHeld k hk hr hgk)
  refine hK.out _ _ hSA (fun _ => ?_)
  clear hK K hHeld gL rL qL hoL hg2 hat hGL hTL KG oL
  try simp only [List.getElem_toArray, List.getElem_cons_succ, List.getElem_cons_zero, Act.put, List.setIfInBounds_toArray, List.set_cons_zero, List.set_cons_succ]
  have hHeld := hSA
  refine wpAnyH_take (i := 6) (v := ?_) rfl (by kernel_rfl) (by kernel_rfl) (by kernel_rfl) (fun _ _ _ h => h) (Or.inl ⟨by rfl, ?_⟩) hHeld ?_
  rotate_left
  · (intro wz hSw; (try dsimp only at hSw); (try simp only [List.getElem_toArray, List.getElem_cons_succ, List.getElem_cons_zero]); go_simp; try with_reducible rfl)
  try simp only [List.getElem_toArray, List.getElem_cons_succ, List.getElem_cons_zero, Act.put, List.setIfInBounds_toArray, List.set_cons_zero, List.set_cons_succ]
  have kg := block_cells hGA
  have fg := block_free hGA
  refine wpAnyH_ready (rs := [7]) (by kernel_rfl) (by simp) ?_; refine AllReadyH.cons rfl (fun K hK => ?_) AllReadyH.nil; (try simp only [List.getElem_toArray, List.getElem_cons_succ, List.getElem_cons_zero]); go_simp
  have hGB := (cells_setW hGA 6 (Value.slice (some ⟨g2, 0, none⟩) (L.length + 1) cap2)).trans rfl
  have hTB := (Below.heap_setCell wA ⟨g, 6, none⟩ (Value.slice (some ⟨g2, 0, none⟩) (L.length + 1) cap2) T (by show T ≠ g; omega)).trans hTA
  have rC : RdW B (wA.setCell ⟨g, 6, none⟩ (Value.slice (some ⟨g2, 0, none⟩) (L.length + 1) cap2)) R X1 b1 := ⟨rA.r.setFar rg (Value.slice (some ⟨g2, 0, none⟩) (L.length + 1) cap2), rA.o, rA.l⟩
  have hBB := grown_setFar (j := 6) (v := (Value.slice (some ⟨g2, 0, none⟩) (L.length + 1) cap2)) hBA ng
  have hgs := grown_set wA g 6 (Value.slice (some ⟨g2, 0, none⟩) (L.length + 1) cap2)
  have hoB := ho2.kept hgs (by
    cases e : ((Value.slice (some ⟨g2, 0, none⟩) (L.length + 1) cap2)).ownBlock with
    | none => exact .inl rfl
    | some y => exact .inr fun h => by have := (ho2.lt y e).1; simp only [Option.some.injEq] at h; omega)
  have hVB : ∀ z ∈ L ++ [(x, p, c)], VeO base (wA.setCell ⟨g, 6, none⟩ (Value.slice (some ⟨g2, 0, none⟩) (L.length + 1) cap2)) z := fun z hz' => by
    rcases List.mem_append.1 hz' with h | h
    · exact (hVA z h).kept hgs gb
    · rw [List.mem_singleton] at h; rw [h]; exact hXA.kept hgs gb
  have hSB : KpB base R g w (wA.setCell ⟨g, 6, none⟩ (Value.slice (some ⟨g2, 0, none⟩) (L.length + 1) cap2)) := fun k hk hr hgk => (Below.heap_setCell wA ⟨g, 6, none⟩ (Value.slice (some ⟨g2, 0, none⟩) (L.length + 1) cap2) k hgk).trans (hSA k hk hr hgk)
  refine hK.out _ _ hSB (fun _ => ?_)
  clear hK K hHeld kg fg
  try simp only [List.getElem_toArray, List.getElem_cons_succ, List.getElem_cons_zero, Act.put, List.setIfInBounds_toArray, List.set_cons_zero, List.set_cons_succ]
  refine wpAnyH_done (by kernel_rfl) ?_ _
  go_wp2_with fail
  first | go_end0 | go_ret
  rw [HR.out]
  refine ⟨rfl, rC, L ++ [(x, p, c)], by rw [List.map_append, HEL.out]; rfl, ⟨⟨(Value.slice (some ⟨g2, 0, none⟩) (L.length + 1) cap2), hGB, ?_⟩, hTB, hBB, by simpa [World.setCell] using hzA, hkp.trans hSB⟩, hVB⟩
  have e1 : ceR (L ++ [(x, p, c)]) = ceR L ++ [.string x.k, .slice p x.vs.length c, .bool x.lk, .int .i64 x.yn, .int .i64 x.yl, .int .i64 x.ys, .int .i64 x.ya, .int .i64 x.hm, .int .i64 x.sw, .int .i64 x.st, .bool x.lr, .string x.ld] := by simp [ceR]
  rw [e1, List.length_append]; exact hoB
end Go.Proofs.Ytmhmlpfkdpjlaaa
