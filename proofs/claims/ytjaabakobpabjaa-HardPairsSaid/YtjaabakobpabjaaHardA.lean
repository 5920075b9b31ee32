/- Hard: records: letters, numbers, entries: package hard's and the reference's. -/
import Derived.Test.YtjaabakobpabjaaPlainHard
import Derived.Test.YtjaabakobpabjaaLogD
namespace Go.Proofs.Ytjaabakobpabjaa
open Go.ChangeShapes Go.WideShapes Go.ChangeAt Go.RowKit

theorem cutE {R P : Nat → Value → Value → World → Prop} {Q : Prop} (h : (∀ g v u w, R g v u w → P g v u w) → Q) (p : ∀ g v u w, R g v u w → P g v u w) : Q := h p
theorem own_keptH {w w' : World} {b : Nat} {e : TypeId} {size n : Nat} {v : Value} {xs : List Value} (h : w.ownsRow b e size v n xs) (hb : Below w.heap.size w w') : w'.ownsRow b e size v n xs := h.kept (row := none) ⟨hb.os, hb.tape, hb.output, hb.size, fun k hk _ => hb.block k hk⟩ (by cases v.ownBlock <;> simp)
theorem recB_len {c : Int} {l : List Int} (h : ∀ x ∈ l, In64 x) : (recB c l).length ≤ 1 + 10 * l.length := by
  have := encNs_len h
  unfold recB; rw [List.length_cons]; omega
theorem recB_next {c : Int} {l : List Int} {k : Nat} (h : k < l.length) : recB c (l.take k) ++ encN l[k] = recB c (l.take (k + 1)) := by
  unfold recB; rw [List.cons_append, flat_next h]
theorem recB_all (c : Int) (l : List Int) : recB c (l.take l.length) = recB c l := by rw [List.take_length]
theorem nums_ofH {w : World} {g : Nat} {vs : List Int} {t : TypeId} (hq : w.heap[g]? = some (.cells (vs.map (Value.int .i64)).toArray t (0, 0))) : NumsAt w (some ⟨g, 0, none⟩) vs := NumsAt.of_cells hq (by
  intro j hj
  simp [hj])
set_option maxRecDepth 100000 in
set_option maxHeartbeats 4000000 in
theorem record_any (c : Int) (p : Option Addr) (cp : Nat) (vs : List Int) (w : World) (hn : NumsAt w p vs) (hv : ∀ x ∈ vs, In64 x) (hl : vs.length ≤ 100) :
    Calls Try.prog 38 #[.int .u8 c, .slice p vs.length cp] w (WEnd w.heap.size w.heap.size w (recB c vs)) := by
  have HN := Lib.hid hn; have HV := Lib.hid hv
  have HO : Hid ((w.alloc (.cells #[.int .u8 c] 5)).ownsRow w.heap.size 5 1 (.slice (some ⟨w.heap.size, 0, none⟩) 1 1) (recB c (vs.take 0)).length (byt (recB c (vs.take 0))) ∧ Below w.heap.size w (w.alloc (.cells #[.int .u8 c] 5))) := ⟨own_oneW w c, (Below.refl _ _).alloc (Nat.le_refl _) _⟩
  clear hn hv
  go_enter Try.func38, Try.ntmps38
  go_wp2_with fail
  go_loopw [5, 12] (fun u i wr => ∃ k : Nat, k ≤ vs.length ∧ i = .int .i64 k ∧ Hid (wr.ownsRow w.heap.size 5 1 u (recB c (vs.take k)).length (byt (recB c (vs.take k))) ∧ Below w.heap.size w wr)) (fun _ i _ => vs.length - (intOf i).toNat)
  case atStart => exact ⟨0, Nat.zero_le _, rfl, HO⟩
  case round =>
    clear HO
    obtain ⟨k, hk, rfl, HO⟩ := hrel
    obtain ⟨wk, rfl⟩ : ∃ wk : World, wk = wr := ⟨_, rfl⟩
    by_cases hlt : k < vs.length
    · have hd : decide ((k : Int) < (vs.length : Int)) = true := by simp; omega
      obtain ⟨g, o, hpe, hg, hc⟩ := (HN.out.keep HO.out.2 (Nat.le_refl _)) k hlt
      obtain ⟨x, hx⟩ : ∃ x, vs[k] = x := ⟨_, rfl⟩
      have hxi := HV.out x (by rw [← hx]; exact List.getElem_mem hlt)
      rw [hx] at hc
      subst hpe
      have hfl : (recB c (vs.take k)).length ≤ 1 + 10 * (vs.take k).length := recB_len (fun y hy => HV.out y (List.mem_of_mem_take hy))
      rw [List.length_take] at hfl
      have hva := var_any wk.heap.size _ (recB c (vs.take k)) (zigI x) wk (Sl.of_own HO.out.1) (Nat.le_refl _) (by omega) (zigI_fit hxi).1 (zigI_fit hxi).2
      have HVA := Lib.hid hva
      have HZ := Lib.hid (zig_any x wk hxi.1 hxi.2)
      have HNX : Hid (recB c (vs.take k) ++ varN (zigI x).toNat = recB c (vs.take (k + 1))) := by show _ = _; rw [← recB_next hlt, hx]; rfl
      clear hva hx hg hfl hxi
      go_wp2_with fail
      refine HZ.out.mono ?_; rintro e w' ⟨rfl, rfl⟩
      go_wp2_with fail
      refine HVA.out.mono ?_; rintro e w2 ⟨v2, rfl, ho2, hb2⟩
      rw [HNX.out] at ho2
      have HO2 : Hid (w2.ownsRow w.heap.size 5 1 v2 (recB c (vs.take (k + 1))).length (byt (recB c (vs.take (k + 1)))) ∧ Below w.heap.size w w2) := ⟨own_baseW ho2 HO.out.2.size, HO.out.2.trans (hb2.mono HO.out.2.size)⟩
      clear ho2 hb2 hc HO HVA HNX HZ
      go_wp2_with fail
      go_roundw
      case rel => exact ⟨k + 1, by omega, by go_num, HO2⟩
      case measure => simp [intOf]; omega
    · obtain rfl : k = vs.length := by omega
      have hd : decide ((vs.length : Int) < (vs.length : Int)) = false := by simp
      go_wp2_with fail
      have h := HO.out
      rw [recB_all] at h
      go_ret
      exact ⟨_, rfl, h.1, h.2⟩
set_option maxHeartbeats 1000000 in
theorem hlife_any (x : Int) (w : World) (hx : In64 x) :
    Calls Try.prog 21 #[.int .i64 x] w (WEnd w.heap.size w.heap.size w (recB 76 [x])) := by
  have hb : Below w.heap.size w (w.alloc (.cells #[.int .i64 x] 3)) := (Below.refl _ _).alloc (Nat.le_refl _) _
  have HC := Lib.hid (record_any 76 (some ⟨w.heap.size, 0, none⟩) 1 [x] (w.alloc (.cells #[.int .i64 x] 3)) (nums_ofH (t := 3) (heap_last w _)) (fun y hy => by rw [List.mem_singleton] at hy; rw [hy]; exact hx) (by simp))
  have HB := Lib.hid hb
  clear hb
  go_enter Try.func21, Try.ntmps21
  go_wp2_with fail
  refine HC.out.mono ?_; rintro e w2 ⟨v2, rfl, ho2, hb2⟩
  have HO2 := Lib.hid (own_baseW ho2 HB.out.size)
  have HB2 := Lib.hid (HB.out.trans (hb2.mono HB.out.size))
  clear ho2 hb2
  go_wp2_with fail
  go_ret
  exact ⟨_, rfl, HO2.out, HB2.out⟩
theorem encJo_leH {j : JoX} (h : JoF j) : (encJo j).length ≤ 200 := by
  have := encCf_len h.o; have := encCf_len h.n
  unfold encJo encF
  simp only [List.flatMap_cons, List.flatMap_nil, List.length_append, List.length_cons, List.length_nil]; omega
set_option maxRecDepth 100000 in
set_option maxHeartbeats 8000000 in
theorem hentry_any (r i : Int) (e : Ent) (w : World) (hr : In64 r) (hi : In64 i) (ht : In64 e.t) (hk : In64 e.k) (hj : JoF (joX e.j)) (hd : e.d.size ≤ 1000000) :
    Calls Try.prog 44 #[.int .i64 r, .int .i64 i, .agg #[.int .i64 e.t, .int .i64 e.k, .string e.d, .int .u16 e.j.ov, .int .u16 e.j.ox, .int .u16 e.j.ol, .int .i64 e.j.oe, .int .i64 e.j.ok, .int .u16 e.j.nv, .int .u16 e.j.nx, .int .u16 e.j.nl, .int .i64 e.j.ne, .int .i64 e.j.nk, .bool e.j.two]] w (WEnd w.heap.size w.heap.size w (entB r i e)) := by
  have HI : Hid (∀ x ∈ [r, i, e.t, e.k], In64 x) := fun x hx => by
    simp only [List.mem_cons, List.not_mem_nil, or_false] at hx
    rcases hx with rfl | rfl | rfl | rfl <;> assumption
  have HSZ : Hid (e.d.size ≤ maxLen) := by show _ ≤ _; unfold maxLen; omega
  have HJ := Lib.hid hj
  have hrl : (recB 69 [r, i, e.t, e.k]).length ≤ 41 := by have := recB_len (c := 69) HI.out; simpa using this
  have hel : (encT e.d).length ≤ 1000010 := by
    unfold encT
    have := (varN_len 10 e.d.size (by have : 128 ^ 10 = 1180591620717411303424 := (by decide); omega) (by omega)).2
    rw [List.length_append, txW_len]; omega
  have hjl : (encJo (joX e.j)).length ≤ 200 := encJo_leH hj
  clear hr hi ht hk hj
  go_enter Try.func44, Try.ntmps44
  go_upto_region 1 with fail
  obtain ⟨W, hW⟩ : ∃ x : World, w.alloc (.cells #[.int .i64 e.t, .int .i64 e.k, .string e.d, .int .u16 e.j.ov, .int .u16 e.j.ox, .int .u16 e.j.ol, .int .i64 e.j.oe, .int .i64 e.j.ok, .int .u16 e.j.nv, .int .u16 e.j.nx, .int .u16 e.j.nl, .int .i64 e.j.ne, .int .i64 e.j.nk, .bool e.j.two] 85) = x := ⟨_, rfl⟩
  have hA : W.heap[w.heap.size]? = some (.cells #[.int .i64 e.t, .int .i64 e.k, .string e.d, .int .u16 e.j.ov, .int .u16 e.j.ox, .int .u16 e.j.ol, .int .i64 e.j.oe, .int .i64 e.j.ok, .int .u16 e.j.nv, .int .u16 e.j.nx, .int .u16 e.j.nl, .int .i64 e.j.ne, .int .i64 e.j.nk, .bool e.j.two] 85 (0, 0)) := by rw [← hW]; exact heap_last w _
  have HB : Hid (Below w.heap.size w W) := by show Below _ _ _; rw [← hW]; exact (Below.refl _ _).alloc (Nat.le_refl _) _
  rw [hW]
  obtain ⟨A, eA⟩ : ∃ n, w.heap.size = n := ⟨_, rfl⟩
  have HEA := Lib.hid eA
  rw [eA] at hA ⊢
  have HA := Lib.hid hA
  clear hW hA eA
  have kA : ∀ w', Below W.heap.size W w' → ∀ j, w'.cell? ⟨A, j, none⟩ = #[.int .i64 e.t, .int .i64 e.k, .string e.d, .int .u16 e.j.ov, .int .u16 e.j.ox, .int .u16 e.j.ol, .int .i64 e.j.oe, .int .i64 e.j.ok, .int .u16 e.j.nv, .int .u16 e.j.nx, .int .u16 e.j.nl, .int .i64 e.j.ne, .int .i64 e.j.nk, .bool e.j.two][j]? := fun w' h => block_cells (below_block h (block_lt HA.out) HA.out)
  have h0 : Below W.heap.size W W.drew := (Below.refl _ _).drew
  refine wp_region_held_drew (S := fun w' => Below W.heap.size W w') (by kernel_rfl) h0 (fun hHeld => ?_)
  obtain ⟨wd, ewd⟩ : ∃ x, W.drew = x := ⟨_, rfl⟩
  rw [ewd] at h0 hHeld ⊢
  clear ewd
  refine wpAnyH_take (i := 0) (v := ?_) rfl (by kernel_rfl) (by kernel_rfl) (by kernel_rfl) (fun _ _ _ h => h) (Or.inl ⟨by rfl, ?_⟩) hHeld ?_
  rotate_left
  · (intro wz hSw; (try dsimp only at hSw); (try simp only [List.getElem_toArray, List.getElem_cons_zero]); go_simp; try with_reducible rfl)
  try simp only [List.getElem_toArray, List.getElem_cons_zero, Act.put, List.setIfInBounds_toArray, List.set_cons_zero, List.set_cons_succ]
  refine wpAnyH_take (i := 1) (v := ?_) rfl (by kernel_rfl) (by kernel_rfl) (by kernel_rfl) (fun _ _ _ h => h) (Or.inl ⟨by rfl, ?_⟩) hHeld ?_
  rotate_left
  · (intro wz hSw; (try dsimp only at hSw); (try simp only [List.getElem_toArray, List.getElem_cons_succ, List.getElem_cons_zero]); go_simp; try with_reducible rfl)
  try simp only [List.getElem_toArray, List.getElem_cons_succ, List.getElem_cons_zero, Act.put, List.setIfInBounds_toArray, List.set_cons_zero, List.set_cons_succ]
  refine wpAnyH_take (i := 2) (v := ?_) rfl (by kernel_rfl) (by kernel_rfl) (by kernel_rfl) (fun _ _ _ h => h) (Or.inl ⟨by rfl, ?_⟩) hHeld ?_
  rotate_left
  · (intro wz hSw; (try dsimp only at hSw); (try simp only [List.getElem_toArray, List.getElem_cons_succ, List.getElem_cons_zero]); go_simp; try with_reducible rfl)
  try simp only [List.getElem_toArray, List.getElem_cons_succ, List.getElem_cons_zero, Act.put, List.setIfInBounds_toArray, List.set_cons_zero, List.set_cons_succ]
  refine wpAnyH_take (i := 3) (v := ?_) rfl (by kernel_rfl) (by kernel_rfl) (by kernel_rfl) (fun _ _ _ h => h) (Or.inl ⟨by rfl, ?_⟩) hHeld ?_
  rotate_left
  · (intro wz hSw; (try dsimp only at hSw); (try simp only [List.getElem_toArray, List.getElem_cons_succ, List.getElem_cons_zero]); go_simp; try with_reducible rfl)
  try simp only [List.getElem_toArray, List.getElem_cons_succ, List.getElem_cons_zero, Act.put, List.setIfInBounds_toArray, List.set_cons_zero, List.set_cons_succ]
  refine wpAnyH_take (i := 4) (v := ?_) rfl (by kernel_rfl) (by kernel_rfl) (by kernel_rfl) (fun _ _ _ h => h) (Or.inl ⟨by rfl, ?_⟩) hHeld ?_
  rotate_left
  · (intro wz hSw; (try dsimp only at hSw); (try simp only [List.getElem_toArray, List.getElem_cons_succ, List.getElem_cons_zero]); go_simp; try with_reducible rfl)
  try simp only [List.getElem_toArray, List.getElem_cons_succ, List.getElem_cons_zero, Act.put, List.setIfInBounds_toArray, List.set_cons_zero, List.set_cons_succ]
  refine wpAnyH_take (i := 5) (v := ?_) rfl (by kernel_rfl) (by kernel_rfl) (by kernel_rfl) (fun _ _ _ h => h) (Or.inl ⟨by rfl, ?_⟩) hHeld ?_
  rotate_left
  · (intro wz hSw; (try dsimp only at hSw); (try simp only [List.getElem_toArray, List.getElem_cons_succ, List.getElem_cons_zero]); go_simp; try with_reducible rfl)
  try simp only [List.getElem_toArray, List.getElem_cons_succ, List.getElem_cons_zero, Act.put, List.setIfInBounds_toArray, List.set_cons_zero, List.set_cons_succ]
  refine wpAnyH_take (i := 8) (v := ?_) rfl (by kernel_rfl) (by kernel_rfl) (by kernel_rfl) (fun _ _ _ h => h) (Or.inl ⟨by rfl, ?_⟩) hHeld ?_
  rotate_left
  · (intro wz hSw; (try dsimp only at hSw); (try simp only [List.getElem_toArray, List.getElem_cons_succ, List.getElem_cons_zero]); go_simp; try with_reducible rfl)
  try simp only [List.getElem_toArray, List.getElem_cons_succ, List.getElem_cons_zero, Act.put, List.setIfInBounds_toArray, List.set_cons_zero, List.set_cons_succ]
  refine wpAnyH_take (i := 9) (v := ?_) rfl (by kernel_rfl) (by kernel_rfl) (by kernel_rfl) (fun _ _ _ h => h) (Or.inl ⟨by rfl, ?_⟩) hHeld ?_
  rotate_left
  · (intro wz hSw; (try dsimp only at hSw); (try simp only [List.getElem_toArray, List.getElem_cons_succ, List.getElem_cons_zero]); go_simp; try with_reducible rfl)
  try simp only [List.getElem_toArray, List.getElem_cons_succ, List.getElem_cons_zero, Act.put, List.setIfInBounds_toArray, List.set_cons_zero, List.set_cons_succ]
  clear hHeld
  apply cutE (R := fun _ v u w' => Below W.heap.size W w' ∧ w'.ownsRow W.heap.size 5 1 v (recB 69 [r, i, e.t, e.k]).length (byt (recB 69 [r, i, e.t, e.k])) ∧ Sl w'.heap.size w' u 1 (txW e.d).length (byt (txW e.d)))
  · intro hcut
    have hHeld := h0
    refine wpAnyH_ready (rs := [6, 10]) (by kernel_rfl) (by simp) ?_
    refine AllReadyH.cons rfl (fun K hK => ?_) (AllReadyH.cons rfl (fun K hK => ?_) AllReadyH.nil)
    · skip
      try simp only [List.getElem_toArray, List.getElem_cons_succ, List.getElem_cons_zero]
      go_simp
      obtain ⟨w1, ew⟩ : ∃ x : World, wd.alloc (.cells #[.int .i64 r, .int .i64 i, .int .i64 e.t, .int .i64 e.k] 3) = x := ⟨_, rfl⟩
      have bl1 : Below wd.heap.size wd w1 := by rw [← ew]; exact (Below.refl _ _).alloc (Nat.le_refl _) _
      have q1 : w1.heap[wd.heap.size]? = some (.cells #[.int .i64 r, .int .i64 i, .int .i64 e.t, .int .i64 e.k] 3 (0, 0)) := by rw [← ew]; exact heap_last wd _
      have b1 := h0.trans (bl1.mono h0.size)
      rw [ew]
      obtain ⟨G, eG⟩ : ∃ n, wd.heap.size = n := ⟨_, rfl⟩
      try rw [eG]
      rw [eG] at q1
      refine hK.out _ _ b1 (fun _ => ?_)
      clear hK K hHeld ew eG
      try simp only [List.getElem_toArray, List.getElem_cons_succ, List.getElem_cons_zero, Act.put, List.setIfInBounds_toArray, List.set_cons_zero, List.set_cons_succ]
      have hHeld := b1
      refine wpAnyH_ready (rs := [7, 10]) (by kernel_rfl) (by simp) ?_
      refine AllReadyH.cons rfl (fun K hK => ?_) (AllReadyH.cons rfl (fun K hK => ?_) AllReadyH.nil)
      · skip
        try simp only [List.getElem_toArray, List.getElem_cons_succ, List.getElem_cons_zero]
        go_simp
        refine (record_any 69 (some ⟨G, 0, none⟩) 4 [r, i, e.t, e.k] w1 (nums_ofH q1) HI.out (by simp)).mono ?_; rintro r0 w2 ⟨v, rfl, o2', k2⟩
        have b2 := b1.trans (k2.mono b1.size)
        have o2 := o2'.mono b1.size
        refine hK.out _ _ b2 (fun _ => ?_)
        clear hK K hHeld
        try simp only [List.getElem_toArray, List.getElem_cons_succ, List.getElem_cons_zero, Act.put, List.setIfInBounds_toArray, List.set_cons_zero, List.set_cons_succ]
        have hHeld := b2
        refine wpAnyH_ready (rs := [10]) (by kernel_rfl) (by simp) ?_
        refine AllReadyH.cons rfl (fun K hK => ?_) AllReadyH.nil
        try simp only [List.getElem_toArray, List.getElem_cons_succ, List.getElem_cons_zero]
        obtain ⟨cu, w3, hcv, s3, k3⟩ := conv_bytes e.d w2 HSZ.out
        go_simp
        clear hcv
        have b3 := b2.trans (k3.mono b2.size)
        have o3 := own_keptH o2 k3
        obtain ⟨u, eu⟩ : ∃ u, Value.slice (some ⟨w2.heap.size, 0, none⟩) e.d.size cu = u := ⟨_, rfl⟩
        rw [eu] at s3
        try rw [eu]
        refine hK.out _ _ b3 (fun _ => ?_)
        clear hK K hHeld eu
        try simp only [List.getElem_toArray, List.getElem_cons_succ, List.getElem_cons_zero, Act.put, List.setIfInBounds_toArray, List.set_cons_zero, List.set_cons_succ]
        have hHeld := b3
        exact hcut G v u w3 ⟨b3, o3, s3⟩
      · skip
        try simp only [List.getElem_toArray, List.getElem_cons_succ, List.getElem_cons_zero]
        obtain ⟨cu, w4, hcv, s4, k4⟩ := conv_bytes e.d w1 HSZ.out
        go_simp
        clear hcv
        have b4 := b1.trans (k4.mono b1.size)
        have q4 := below_block k4 (block_lt q1) q1
        obtain ⟨u, eu⟩ : ∃ u, Value.slice (some ⟨w1.heap.size, 0, none⟩) e.d.size cu = u := ⟨_, rfl⟩
        rw [eu] at s4
        try rw [eu]
        refine hK.out _ _ b4 (fun _ => ?_)
        clear hK K hHeld eu
        try simp only [List.getElem_toArray, List.getElem_cons_succ, List.getElem_cons_zero, Act.put, List.setIfInBounds_toArray, List.set_cons_zero, List.set_cons_succ]
        have hHeld := b4
        refine wpAnyH_ready (rs := [7]) (by kernel_rfl) (by simp) ?_
        refine AllReadyH.cons rfl (fun K hK => ?_) AllReadyH.nil
        try simp only [List.getElem_toArray, List.getElem_cons_succ, List.getElem_cons_zero]
        go_simp
        refine (record_any 69 (some ⟨G, 0, none⟩) 4 [r, i, e.t, e.k] w4 (nums_ofH q4) HI.out (by simp)).mono ?_; rintro r0 w5 ⟨v, rfl, o5', k5⟩
        have b5 := b4.trans (k5.mono b4.size)
        have o5 := o5'.mono b4.size
        have s5 := (s4.keep k5).mono k5.size
        refine hK.out _ _ b5 (fun _ => ?_)
        clear hK K hHeld
        try simp only [List.getElem_toArray, List.getElem_cons_succ, List.getElem_cons_zero, Act.put, List.setIfInBounds_toArray, List.set_cons_zero, List.set_cons_succ]
        have hHeld := b5
        exact hcut G v u w5 ⟨b5, o5, s5⟩
    · skip
      try simp only [List.getElem_toArray, List.getElem_cons_succ, List.getElem_cons_zero]
      obtain ⟨cu, w6, hcv, s6, k6⟩ := conv_bytes e.d wd HSZ.out
      go_simp
      clear hcv
      have b6 := h0.trans (k6.mono h0.size)
      obtain ⟨u, eu⟩ : ∃ u, Value.slice (some ⟨wd.heap.size, 0, none⟩) e.d.size cu = u := ⟨_, rfl⟩
      rw [eu] at s6
      try rw [eu]
      refine hK.out _ _ b6 (fun _ => ?_)
      clear hK K hHeld eu
      try simp only [List.getElem_toArray, List.getElem_cons_succ, List.getElem_cons_zero, Act.put, List.setIfInBounds_toArray, List.set_cons_zero, List.set_cons_succ]
      have hHeld := b6
      refine wpAnyH_ready (rs := [6]) (by kernel_rfl) (by simp) ?_
      refine AllReadyH.cons rfl (fun K hK => ?_) AllReadyH.nil
      try simp only [List.getElem_toArray, List.getElem_cons_succ, List.getElem_cons_zero]
      go_simp
      obtain ⟨w7, ew⟩ : ∃ x : World, w6.alloc (.cells #[.int .i64 r, .int .i64 i, .int .i64 e.t, .int .i64 e.k] 3) = x := ⟨_, rfl⟩
      have bl7 : Below w6.heap.size w6 w7 := by rw [← ew]; exact (Below.refl _ _).alloc (Nat.le_refl _) _
      have q7 : w7.heap[w6.heap.size]? = some (.cells #[.int .i64 r, .int .i64 i, .int .i64 e.t, .int .i64 e.k] 3 (0, 0)) := by rw [← ew]; exact heap_last w6 _
      have b7 := b6.trans (bl7.mono b6.size)
      have s7 := (s6.keep bl7).mono bl7.size
      rw [ew]
      obtain ⟨G, eG⟩ : ∃ n, w6.heap.size = n := ⟨_, rfl⟩
      try rw [eG]
      rw [eG] at q7
      refine hK.out _ _ b7 (fun _ => ?_)
      clear hK K hHeld ew eG
      try simp only [List.getElem_toArray, List.getElem_cons_succ, List.getElem_cons_zero, Act.put, List.setIfInBounds_toArray, List.set_cons_zero, List.set_cons_succ]
      have hHeld := b7
      refine wpAnyH_ready (rs := [7]) (by kernel_rfl) (by simp) ?_
      refine AllReadyH.cons rfl (fun K hK => ?_) AllReadyH.nil
      try simp only [List.getElem_toArray, List.getElem_cons_succ, List.getElem_cons_zero]
      go_simp
      refine (record_any 69 (some ⟨G, 0, none⟩) 4 [r, i, e.t, e.k] w7 (nums_ofH q7) HI.out (by simp)).mono ?_; rintro r0 w8 ⟨v, rfl, o8', k8⟩
      have b8 := b7.trans (k8.mono b7.size)
      have o8 := o8'.mono b7.size
      have s8 := (s7.keep k8).mono k8.size
      refine hK.out _ _ b8 (fun _ => ?_)
      clear hK K hHeld
      try simp only [List.getElem_toArray, List.getElem_cons_succ, List.getElem_cons_zero, Act.put, List.setIfInBounds_toArray, List.set_cons_zero, List.set_cons_succ]
      have hHeld := b8
      exact hcut G v u w8 ⟨b8, o8, s8⟩
  intro G v u wx hx
  obtain ⟨hb, ho, hs⟩ := hx
  have hHeld := hb
  have HT := Lib.hid (text_any wx.heap.size v u (recB 69 [r, i, e.t, e.k]) (txW e.d) wx (Sl.of_own ho) hs (Nat.le_refl _) (by rw [txW_len]; omega))
  refine wpAnyH_ready (rs := [11]) (by kernel_rfl) (by simp) ?_; refine AllReadyH.cons rfl (fun K hK => ?_) AllReadyH.nil; (try simp only [List.getElem_toArray, List.getElem_cons_succ, List.getElem_cons_zero]); go_simp
  refine HT.out.mono ?_; rintro r0 w1 ⟨v1, rfl, ho1, hb1⟩
  have hS := hb.trans (hb1.mono hb.size)
  refine hK.out _ _ hS (fun _ => ?_)
  clear hK K hHeld HT
  try simp only [List.getElem_toArray, List.getElem_cons_succ, List.getElem_cons_zero, Act.put, List.setIfInBounds_toArray, List.set_cons_zero, List.set_cons_succ]
  have hHeld := hS
  refine wpAnyH_take (i := 12) (v := ?_) rfl (by kernel_rfl) (by kernel_rfl) (by kernel_rfl) (fun _ _ _ h => h) (Or.inl ⟨by rfl, ?_⟩) hHeld ?_
  rotate_left
  · (intro wz hSw; (try dsimp only at hSw); (try simp only [List.getElem_toArray, List.getElem_cons_succ, List.getElem_cons_zero]); go_simp; try with_reducible rfl)
  try simp only [List.getElem_toArray, List.getElem_cons_succ, List.getElem_cons_zero, Act.put, List.setIfInBounds_toArray, List.set_cons_zero, List.set_cons_succ]
  refine wpAnyH_done (by kernel_rfl) ?_ _
  have hX : recB 69 [r, i, e.t, e.k] ++ varN (txW e.d).length ++ txW e.d = recB 69 [r, i, e.t, e.k] ++ encT e.d := by rw [txW_len]; simp [encT]
  rw [hX] at ho1
  have HO1 := Lib.hid (ho1.mono (Nat.le_trans HB.out.size hb.size))
  have HB1 := Lib.hid (HB.out.trans (hS.mono HB.out.size))
  have hA1 := below_block hS (block_lt HA.out) HA.out
  have k1 := block_cells hA1
  have HA1 := Lib.hid hA1
  clear hX ho1 hb ho hs hb1 hHeld hS hA1 kA h0
  by_cases hk2 : e.k = 2
  · have hq : (e.k == 2) = true := by simpa using hk2
    have HE : Hid (entB r i e = recB 69 [r, i, e.t, e.k] ++ encT e.d ++ encJo (joX e.j)) := by show _ = _; unfold entB; rw [if_pos hk2]
    clear hk2
    have HC := Lib.hid (wjoint_any (joX e.j) w1 HJ.out)
    obtain ⟨i0, hi0, hz0, hz1, hz2⟩ := info_parts Try.infoU8
    go_wp2_with fail
    refine HC.out.mono ?_; rintro r0 w2 ⟨v2, rfl, ho2, hb2⟩
    have HO2 := Lib.hid (own_keptH HO1.out hb2)
    have HS2 := Lib.hid (Sl.of_own ho2)
    have HB2 := Lib.hid (HB1.out.trans (hb2.mono HB1.out.size))
    clear ho2 hb2 k1 HC
    go_wp2_with (at_builtin; refine wpList_append_sl rfl _ _ 32 rfl w.heap.size 5 i0 (.int .u8 0) 1 1 Try.underlying32 hi0 hz0 hz1 hz2 rfl (by decide) v1 (recB 69 [r, i, e.t, e.k] ++ encT e.d).length (byt (recB 69 [r, i, e.t, e.k] ++ encT e.d)) rfl HO2.out w2.heap.size _ (encJo (joX e.j)).length (byt (encJo (joX e.j))) rfl HS2.out (byt_one _) ?d1 ?d2 ?d3 ?_)
    case d1 => simp only [List.length_append]; unfold maxLen; omega
    case d2 => simp only [List.length_append]; omega
    case d3 => exact HB2.out.size
    intro v3 w3 ho3 hg3
    have HBZ : Hid (Below w.heap.size w w3) := HB2.out.grown hg3 HB2.out.size (fun k hk => (HO2.out.lt k hk).1)
    have HO3 : Hid (w3.ownsRow w.heap.size 5 1 v3 (recB 69 [r, i, e.t, e.k] ++ encT e.d ++ encJo (joX e.j)).length (byt (recB 69 [r, i, e.t, e.k] ++ encT e.d ++ encJo (joX e.j)))) := by
      show World.ownsRow _ _ _ _ _ _ _
      simp only [List.length_append]
      rw [show byt (recB 69 [r, i, e.t, e.k] ++ encT e.d ++ encJo (joX e.j)) = byt (recB 69 [r, i, e.t, e.k] ++ encT e.d) ++ byt (encJo (joX e.j)) by simp [byt]]
      exact ho3
    clear ho3 hg3
    go_wp2_with fail
    go_ret
    exact ⟨_, rfl, by rw [HE.out]; exact HO3.out, HBZ.out⟩
  · have hq : (e.k == 2) = false := by simpa using hk2
    have HE : Hid (entB r i e = recB 69 [r, i, e.t, e.k] ++ encT e.d) := by show _ = _; unfold entB; rw [if_neg hk2, List.append_nil]
    have HBZ := HB1
    clear hk2
    go_wp2_with fail
    go_ret
    exact ⟨_, rfl, by rw [HE.out]; exact HO1.out, HBZ.out⟩
end Go.Proofs.Ytjaabakobpabjaa
