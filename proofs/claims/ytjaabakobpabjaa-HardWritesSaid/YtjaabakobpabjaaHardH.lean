/- Hard: the reference's Whole. -/
import Derived.Test.YtjaabakobpabjaaHardG
import Derived.Test.YtjaabakobpabjaaHardD
namespace Go.Proofs.Ytjaabakobpabjaa
open Go.ChangeShapes Go.WideShapes Go.ChangeAt Go.RowKit

/-- An append of a slice that may be none, in a region that draws its order. -/
theorem wp_append_any {P : Program} {w : World} {o : Oper} {a : Act} {K : Act → World → Prop} {Q : Exit → Act → World → Prop} (s x : Operand) (t : TypeId)
    (ho : o.op = .call { callee := .builtin .append, args := #[s, x], argTypes := #[t, t] })
    (base : Nat) (e : TypeId) (i : TypeInfo) (z : Value) (size bytes : Nat) (ht : P.underlying t = some (.slice e)) (hi : P.info? e = some i) (hz : i.zero = some z)
    (hsize : i.size = size) (hby : i.bytes = bytes) (hzs : z.cells.size = size) (hsz : 0 < size)
    (v : Value) (n : Nat) (xs : List Value) (hs : a.eval s = v) (hown : w.ownsRow base e size v n xs)
    (B : Nat) (u : Value) (m : Nat) (news : List Value) (hx : a.eval x = u) (hsl : Sl B w u size m news) (h1 : ∀ u ∈ news, u.oneCell' = true)
    (h63 : n + m ≤ maxLen) (hbytes : (n + m) * bytes ≤ 140737488355328) (hbase : base ≤ w.heap.size)
    (h : ∀ v' w', w'.ownsRow base e size v' (n + m) (xs ++ news) → w.grownBy w' v.ownBlock → (v'.ownBlock = v.ownBlock ∨ v'.ownBlock = some w.heap.size) → K (a.put o.dst v') w') : Oper.wp P o a w K Q := by
  by_cases hm : 0 < m
  · exact wp_append_row s x t ho base e i z size bytes ht hi hz hsize hby hzs hsz v n xs hs hown B u m news hx hsl hm h1 h63 hbytes hbase h
  · obtain ⟨hl, hc⟩ := hsl
    obtain rfl : m = 0 := by omega
    have hn : news = [] := List.eq_nil_of_length_eq_zero (by simpa using hl)
    subst hn
    have hk := h v w (by simpa using hown) ⟨rfl, rfl, rfl, Nat.le_refl _, fun _ _ _ => rfl⟩ (.inl rfl)
    rcases hc with ⟨rfl, -⟩ | ⟨ad, cap, rfl, _, _, hcell⟩
    · have hrun := run_append_owned_none (P := P) (w := w) base t o.type e i size ht hi v n xs hown
      unfold Oper.wp
      simp [execOp, ho, resolve, invoke, builtin, hs, hx, hrun, Result.andThen]
      exact hk
    · obtain ⟨v', w', hr, h2, h3, -, h5⟩ := run_append_own_at (P := P) (w := w) base t o.type e i z size bytes ht hi hz hsize hby hzs hsz v n xs hown ad 0 cap [] (by simp) (fun j u hu => by simp at hu) (fun u hu => by cases hu) h63 hbytes hbase
      unfold Oper.wp execOp
      simp only [ho, resolve, invoke, builtin, Sem.run_bind, Sem.run_pure, Result.andThen_ok, List.map_toArray, List.map_cons, List.map_nil, hs, hx, hr]
      exact h v' w' h2 h3 h5
theorem st_one (l : List (List Int)) : ∀ u ∈ stR l, u.oneCell' = true := fun u hu => by
  obtain ⟨x, -, rfl⟩ := List.mem_map.1 hu; rfl
theorem st_app (a b : List (List Int)) : stR (a ++ b) = stR a ++ stR b := by simp [stR]
set_option maxRecDepth 100000 in
set_option maxHeartbeats 8000000 in
theorem rhwhole_any (life : Int) (l : List KpX) (q : Option Addr) (cq : Nat) (w : World) (hlf : In64 life) (hq : KpAt w q l) (hx : ∀ x ∈ l, In64 x.r ∧ LgFit x.c.l ∧ CoF x.c) (hl : l.length ≤ 10) :
    Calls Try.prog 20 #[.int .i64 life, .slice q l.length cq] w (StEnd w (wholeB life l)) := by
  obtain ⟨i0, hi0, hz0, hz1, hz2⟩ := info_parts Try.infoStr
  have HQ := Lib.hid hq; have HX := Lib.hid hx
  have HC := Lib.hid (rhlife_any life w hlf)
  clear hlf hq hx
  go_enter Try.func20, Try.ntmps20
  obtain ⟨Q', hQ⟩ : ∃ Q', bodyPost Try.prog Try.f20 (StEnd w (wholeB life l)) = Q' := ⟨_, rfl⟩
  have HQQ : Hid (∀ (a : Act) (w' : World) (v : Value), a.tmps.getD 4 undef = v → a.defers = [] → w'.ownsRow w.heap.size 9 1 v (wholeB life l).length (stR (wholeB life l)) → Below w.heap.size w w' → Q' .ret a w') := fun a w' v h6 hd hm hb => by
    rw [← hQ]; exact bodyPost_ret (v := v) (by rw [results_tmp rfl, h6]) hd ⟨v, rfl, hm, hb⟩
  rw [hQ]
  clear hQ
  go_wp2_with fail
  refine HC.out.mono ?_; rintro e w1 ⟨rfl, hb1⟩
  have hb2 : Below w1.heap.size w1 (w1.alloc (.cells #[(Value.string (strOfNums (recB 76 [life])))] 9)) := (Below.refl _ _).alloc (Nat.le_refl _) _
  have HO : Hid ((w1.alloc (.cells #[(Value.string (strOfNums (recB 76 [life])))] 9)).ownsRow w.heap.size 9 1 (.slice (some ⟨w1.heap.size, 0, none⟩) 1 1) (wholeB life (l.take 0)).length (stR (wholeB life (l.take 0))) ∧ (wholeB life (l.take 0)).length ≤ 1 + 0 * 1000003 ∧ Below w.heap.size w (w1.alloc (.cells #[(Value.string (strOfNums (recB 76 [life])))] 9))) := ⟨⟨rfl, .inr ⟨w1.heap.size, 1, _, rfl, hb1.size, heap_last w1 _, Nat.le_refl _, by unfold maxLen; decide, rfl, rfl⟩⟩, by simp [wholeB], hb1.trans (hb2.mono hb1.size)⟩
  clear hb1 hb2 HC
  go_wp2_with fail
  go_loopw [5, 6] (fun u i wr => ∃ k : Nat, k ≤ l.length ∧ i = .int .i64 k ∧ Hid (wr.ownsRow w.heap.size 9 1 u (wholeB life (l.take k)).length (stR (wholeB life (l.take k))) ∧ (wholeB life (l.take k)).length ≤ 1 + k * 1000003 ∧ Below w.heap.size w wr)) (fun _ i _ => l.length - (intOf i).toNat)
  case atStart => exact ⟨0, Nat.zero_le _, rfl, HO⟩
  case round =>
    clear HO
    obtain ⟨k, hk, rfl, HO⟩ := hrel
    obtain ⟨wk, rfl⟩ : ∃ wk : World, wk = wr := ⟨_, rfl⟩
    obtain ⟨vk, rfl⟩ : ∃ vk : Value, vk = u5 := ⟨_, rfl⟩
    by_cases hlt : k < l.length
    · have hd : decide ((k : Int) < (l.length : Int)) = true := by simp; omega
      obtain ⟨hB, hml, hbw⟩ := HO.out
      obtain ⟨ga, oa, hqe, hga, hca, hen⟩ := HQ.out k hlt
      obtain ⟨x, hx⟩ : ∃ x, l[k] = x := ⟨_, rfl⟩
      rw [hx] at hca hen
      obtain ⟨f1, f2, f3⟩ := HX.out x (by rw [← hx]; exact List.getElem_mem hlt)
      subst hqe
      have hdl := diffB_len x.r co0 x.c
      have hes := f2.n
      have hwn : wholeB life (l.take (k + 1)) = wholeB life (l.take k) ++ diffB x.r co0 x.c := by rw [wholeB_next life hlt, hx]
      have HWN := Lib.hid hwn
      obtain ⟨M, hM⟩ : ∃ M, wholeB life (l.take k) = M := ⟨_, rfl⟩
      rw [hM] at hB hml HWN
      have HB := Lib.hid hB; have HBW := Lib.hid hbw; have HCA := Lib.hid hca; have HEN := Lib.hid hen
      have hgl : ga < w.heap.size := hga
      clear hen hB hbw hx HO hca hwn hM hga
      go_upto_region 5 with fail
      have h0 : Below w.heap.size w wk.drew := HBW.out.drew
      have kR : ∀ w', Below w.heap.size w w' → w'.cell? ⟨ga, oa + k * 46, none⟩ = some (.int .i64 x.r) := fun w' h => (h.cell (p := ⟨ga, oa + k * 46, none⟩) hgl).trans (HCA.out 0 (by decide))
      have HRX := Lib.hid (show ∀ w', Below w.heap.size w w' → w'.rangeAt ga (oa + k * 46 + 1) (coV x) from fun w' h => range_of (n := 45) rfl (fun j hj => by
        rw [Nat.add_assoc, (h.cell (p := ⟨ga, oa + k * 46 + (1 + j), none⟩) hgl), HCA.out (1 + j) (by omega), ← List.getElem?_toArray, kp_tail]))
      refine wp_region_noPanic ?_
      refine wp_region_held_drew (S := fun w' => Below w.heap.size w w') (by kernel_rfl) h0 (fun hHeld => ?_)
      obtain ⟨wd, ewd⟩ : ∃ x, wk.drew = x := ⟨_, rfl⟩
      have hwd : Below wk.heap.size wk wd := by rw [← ewd]; exact (Below.refl _ _).drew
      rw [ewd] at h0 hHeld ⊢
      clear ewd
      refine wpAnyH_take (i := 0) (v := ?_) rfl (by kernel_rfl) (by kernel_rfl) (by kernel_rfl) (fun _ _ _ h => h) (Or.inl ⟨by rfl, ?_⟩) hHeld ?_
      rotate_left
      · (intro wz hSw; (try dsimp only at hSw); (try simp only [List.getElem_toArray, List.getElem_cons_zero]); go_simp; try with_reducible rfl)
      try simp only [List.getElem_toArray, List.getElem_cons_zero, Act.put, List.setIfInBounds_toArray, List.set_cons_zero, List.set_cons_succ]
      refine wpAnyH_take (i := 1) (v := ?_) rfl (by kernel_rfl) (by kernel_rfl) (by kernel_rfl) (fun _ _ _ h => h) (Or.inl ⟨by rfl, ?_⟩) hHeld ?_
      rotate_left
      · (intro wz hSw; (try dsimp only at hSw); (try simp only [List.getElem_toArray, List.getElem_cons_succ, List.getElem_cons_zero]); go_simp; try with_reducible rfl)
      try simp only [List.getElem_toArray, List.getElem_cons_succ, List.getElem_cons_zero, Act.put, List.setIfInBounds_toArray, List.set_cons_zero, List.set_cons_succ]
      refine wpAnyH_take (i := 2) (v := ?_) rfl (by kernel_rfl) (by kernel_rfl) (by kernel_rfl) (fun _ _ _ h => h) (Or.inl ⟨by rfl, ?_⟩) hHeld ?_
      rotate_left
      · (intro wz hSw; (try dsimp only at hSw); (try simp only [List.getElem_toArray, List.getElem_cons_succ, List.getElem_cons_zero]); go_simp; try with_reducible rfl)
      try simp only [List.getElem_toArray, List.getElem_cons_succ, List.getElem_cons_zero, Act.put, List.setIfInBounds_toArray, List.set_cons_zero, List.set_cons_succ]
      refine wpAnyH_take (i := 3) (v := ?_) rfl (by kernel_rfl) (by kernel_rfl) (by kernel_rfl) (fun _ _ _ h => h) (Or.inl ⟨by rfl, ?_⟩) hHeld ?_
      rotate_left
      · (intro wz hSw; (try dsimp only at hSw); (try simp only [List.getElem_toArray, List.getElem_cons_succ, List.getElem_cons_zero]); go_simp; try with_reducible rfl)
      try simp only [List.getElem_toArray, List.getElem_cons_succ, List.getElem_cons_zero, Act.put, List.setIfInBounds_toArray, List.set_cons_zero, List.set_cons_succ]
      refine wpAnyH_take (i := 4) (v := ?_) rfl (by kernel_rfl) (by kernel_rfl) (by kernel_rfl) (fun _ _ _ h => h) (Or.inl ⟨by rfl, ?_⟩) hHeld ?_
      rotate_left
      · (intro wz hSw; (try dsimp only at hSw); (try simp only [List.getElem_toArray, List.getElem_cons_succ, List.getElem_cons_zero]); go_simp; try with_reducible rfl)
      try simp only [List.getElem_toArray, List.getElem_cons_succ, List.getElem_cons_zero, Act.put, List.setIfInBounds_toArray, List.set_cons_zero, List.set_cons_succ]
      refine wpAnyH_take (i := 5) (v := ?_) rfl (by kernel_rfl) (by kernel_rfl) (by kernel_rfl) (fun _ _ _ h => h) (Or.inl ⟨by rfl, ?_⟩) hHeld ?_
      rotate_left
      · (intro wz hSw; (try dsimp only at hSw); (try simp only [List.getElem_toArray, List.getElem_cons_succ, List.getElem_cons_zero]); go_simp; try with_reducible rfl)
      try simp only [List.getElem_toArray, List.getElem_cons_succ, List.getElem_cons_zero, Act.put, List.setIfInBounds_toArray, List.set_cons_zero, List.set_cons_succ]
      refine wpAnyH_take (i := 6) (v := ?_) rfl (by kernel_rfl) (by kernel_rfl) (by kernel_rfl) (fun _ _ _ h => h) (Or.inl ⟨by rfl, ?_⟩) hHeld ?_
      rotate_left
      · (intro wz hSw; (try dsimp only at hSw); (try simp only [List.getElem_toArray, List.getElem_cons_succ, List.getElem_cons_zero]); go_simp; try with_reducible rfl)
      try simp only [List.getElem_toArray, List.getElem_cons_succ, List.getElem_cons_zero, Act.put, List.setIfInBounds_toArray, List.set_cons_zero, List.set_cons_succ]
      refine wpAnyH_take (i := 7) (v := ?_) rfl (by kernel_rfl) (by kernel_rfl) (by kernel_rfl) (fun _ _ _ h => h) (Or.inl ⟨by rfl, ?_⟩) hHeld ?_
      rotate_left
      · (intro wz hSw; (try dsimp only at hSw); (try simp only [List.getElem_toArray, List.getElem_cons_succ, List.getElem_cons_zero]); go_simp; try with_reducible rfl)
      try simp only [List.getElem_toArray, List.getElem_cons_succ, List.getElem_cons_zero, Act.put, List.setIfInBounds_toArray, List.set_cons_zero, List.set_cons_succ]
      refine wpAnyH_take (i := 8) (v := ?_) rfl (by kernel_rfl) (by kernel_rfl) (by kernel_rfl) (fun _ _ _ h => h) (Or.inl ⟨by rfl, ?_⟩) hHeld ?_
      rotate_left
      · (intro wz hSw; (try dsimp only at hSw); (try simp only [List.getElem_toArray, List.getElem_cons_succ, List.getElem_cons_zero]); go_simp; try with_reducible rfl)
      try simp only [List.getElem_toArray, List.getElem_cons_succ, List.getElem_cons_zero, Act.put, List.setIfInBounds_toArray, List.set_cons_zero, List.set_cons_succ]
      refine wpAnyH_take (i := 9) (v := ?_) rfl (by kernel_rfl) (by kernel_rfl) (by kernel_rfl) (fun _ _ _ h => h) (Or.inl ⟨by rfl, ?_⟩) hHeld ?_
      rotate_left
      · (intro wz hSw; (try dsimp only at hSw); (try simp only [List.getElem_toArray, List.getElem_cons_succ, List.getElem_cons_zero]); go_simp; try with_reducible rfl)
      try simp only [List.getElem_toArray, List.getElem_cons_succ, List.getElem_cons_zero, Act.put, List.setIfInBounds_toArray, List.set_cons_zero, List.set_cons_succ]
      refine wpAnyH_take (i := 10) (v := ?_) rfl (by kernel_rfl) (by kernel_rfl) (by kernel_rfl) (fun _ _ _ h => h) (Or.inl ⟨by rfl, ?_⟩) hHeld ?_
      rotate_left
      · (intro wz hSw; (try dsimp only at hSw); (try simp only [List.getElem_toArray, List.getElem_cons_succ, List.getElem_cons_zero]); go_simp; try with_reducible rfl)
      try simp only [List.getElem_toArray, List.getElem_cons_succ, List.getElem_cons_zero, Act.put, List.setIfInBounds_toArray, List.set_cons_zero, List.set_cons_succ]
      refine wpAnyH_take (i := 11) (v := .agg (coV x).toArray) rfl (by kernel_rfl) (by kernel_rfl) (by kernel_rfl) (fun _ _ _ h => h) (yieldsIf_load_mid (by rfl) _ _ rfl ga (oa + k * 46 + 1) rfl (coV x) _ HRX.out Try.underlying48 rfl (by kernel_rfl)) hHeld ?_
      try simp only [List.getElem_toArray, List.getElem_cons_succ, List.getElem_cons_zero, Act.put, List.setIfInBounds_toArray, List.set_cons_zero, List.set_cons_succ]
      refine wpAnyH_ready (rs := [12]) (by kernel_rfl) (by simp) ?_; refine AllReadyH.cons rfl (fun K hK => ?_) AllReadyH.nil; (try simp only [List.getElem_toArray, List.getElem_cons_succ, List.getElem_cons_zero]); go_simp
      refine (show Calls Try.prog 19 #[.int .i64 x.r, .agg #[.int .i64 0, .int .i64 0, .int .i64 0, .int .i64 0, .int .i64 0, .int .i64 0, .int .i64 0, .int .i64 0, .int .i64 0, .int .i64 0, .int .u16 0, .int .u16 0, .int .u16 0, .int .i64 0, .int .i64 0, .int .u16 0, .int .u16 0, .int .u16 0, .int .i64 0, .int .i64 0, .bool false, .slice none 0 0, .string ⟨#[]⟩, .int .u16 0, .int .u16 0, .int .i64 0, .int .i64 0, .int .i64 0, .int .i64 0, .int .i64 0, .int .i64 0, .int .i64 0, .int .i64 0, .int .i64 0, .int .i64 0, .int .i64 0, .int .i64 0, .int .i64 0, .int .i64 0, .int .i64 0, .int .i64 0, .int .i64 0, .int .i64 0, .int .i64 0, .int .i64 0], .agg (coV x).toArray] wd (StEnd wd (diffB x.r co0 x.c)) from rhdiff_any x.r co0 x.c none x.p 0 x.k wd lg0_fit f2 f1 f3 ⟨rfl, .inl ⟨rfl, rfl⟩⟩ (HEN.out.keep h0 (Nat.le_refl _))).mono ?_; rintro r0 w3 ⟨v3, rfl, o3, b3⟩
      have s3 := h0.trans (b3.mono h0.size)
      refine hK.out _ _ s3 (fun _ => ?_)
      clear hK K hHeld kR
      try simp only [List.getElem_toArray, List.getElem_cons_succ, List.getElem_cons_zero, Act.put, List.setIfInBounds_toArray, List.set_cons_zero, List.set_cons_succ]
      have hHeld := s3
      refine wpAnyH_ready (rs := [13]) (by kernel_rfl) (by simp) ?_; refine AllReadyH.cons rfl (fun K hK => ?_) AllReadyH.nil
      rw [if_pos (by rfl)]
      refine wp_append_any _ _ 31 (by rfl) w.heap.size 9 i0 (.string ⟨#[]⟩) 1 16 Try.underlying31 hi0 hz0 hz1 hz2 rfl (by decide) vk M.length (stR M) (by rfl) (own_keptH HB.out (hwd.trans (b3.mono hwd.size))) w3.heap.size v3 (diffB x.r co0 x.c).length (stR (diffB x.r co0 x.c)) (by rfl) (Sl.of_own o3) (st_one _) (by unfold maxLen; omega) (by omega) s3.size ?_
      intro v4 w4 h2 h3 h4
      have s4 : Below w.heap.size w w4 := s3.grown h3 s3.size (fun k hk => (HB.out.lt k hk).1)
      have HO2 : Hid (w4.ownsRow w.heap.size 9 1 v4 (wholeB life (l.take (k + 1))).length (stR (wholeB life (l.take (k + 1)))) ∧ (wholeB life (l.take (k + 1))).length ≤ 1 + (k + 1) * 1000003 ∧ Below w.heap.size w w4) := by
        show _ ∧ _ ∧ _
        rw [HWN.out, List.length_append, st_app]
        exact ⟨h2, by omega, s4⟩
      refine hK.out _ _ s4 (fun _ => ?_)
      clear hK K hHeld h2 h3 h4 o3 b3 HB HBW HWN HCA HEN s4 s3 h0 hwd HRX
      try simp only [List.getElem_toArray, List.getElem_cons_succ, List.getElem_cons_zero, Act.put, List.setIfInBounds_toArray, List.set_cons_zero, List.set_cons_succ]
      have hHeld := HO2.out.2.2
      refine wpAnyH_take (i := 14) (v := ?_) rfl (by kernel_rfl) (by kernel_rfl) (by kernel_rfl) (fun _ _ _ h => h) (Or.inl ⟨by rfl, ?_⟩) hHeld ?_
      rotate_left
      · (intro wz hSw; (try dsimp only at hSw); (try simp only [List.getElem_toArray, List.getElem_cons_succ, List.getElem_cons_zero]); go_simp; try with_reducible rfl)
      try simp only [List.getElem_toArray, List.getElem_cons_succ, List.getElem_cons_zero, Act.put, List.setIfInBounds_toArray, List.set_cons_zero, List.set_cons_succ]
      refine wpAnyH_done (by kernel_rfl) ?_ _
      refine NoPanic.normal ?_
      clear hHeld
      go_wp2_with fail
      go_roundw
      case rel => exact ⟨k + 1, by omega, by go_num, HO2⟩
      case measure => simp [intOf]; omega
    · obtain rfl : k = l.length := by omega
      have hd : decide ((l.length : Int) < (l.length : Int)) = false := by simp
      obtain ⟨hB, -, hbw⟩ := HO.out
      rw [List.take_of_length_le (Nat.le_refl _)] at hB
      have HB := Lib.hid hB; have HBW := Lib.hid hbw
      clear hB hbw HO
      go_wp2_with fail
      exact HQQ.out _ _ vk rfl rfl HB.out HBW.out
end Go.Proofs.Ytjaabakobpabjaa
