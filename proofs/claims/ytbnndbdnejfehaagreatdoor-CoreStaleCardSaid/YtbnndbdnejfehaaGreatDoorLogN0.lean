import Derived.Test.YtbnndbdnejfehaaGreatDoorLogH
import Derived.Test.YtbnndbdnejfehaaGreatDoorPlainMayL
/- entries: Compact. -/
namespace Go.Proofs.YtbnndbdnejfehaaGreatDoor
open Go.ChangeShapes Go.WideShapes Go.ChangeAt Go.RowKit

/-- A log in a memory of its own, and an error. -/
def LgEnd2 (B : Nat) (w : World) (m : Lg) (k : Int) (r : Ending) (w' : World) : Prop :=
  ∃ p c, r = .returned (.tuple #[.agg #[.int .i64 m.b, .int .i64 m.bt, .int .u16 m.j.ov, .int .u16 m.j.ox, .int .u16 m.j.ol, .int .i64 m.j.oe, .int .i64 m.j.ok, .int .u16 m.j.nv, .int .u16 m.j.nx, .int .u16 m.j.nl, .int .i64 m.j.ne, .int .i64 m.j.nk, .bool m.j.two, .slice p m.es.length c], .int .i64 k]) ∧ w'.ownsRow B 47 14 (.slice p m.es.length c) m.es.length (entRow m.es) ∧ Below w.heap.size w w'
theorem EnSl.nil (w : World) : EnSl w (.slice none ([] : List Ent).length 0) [] := ⟨rfl, .inl ⟨rfl, rfl⟩⟩
theorem EnSl.of_own {w : World} {B : Nat} {e : TypeId} {v : Value} {L : List Ent} (h : w.ownsRow B e 14 v L.length (entRow L)) : EnSl w v L := Sl.of_own h
set_option maxRecDepth 100000 in
set_option maxHeartbeats 8000000 in
theorem compact_any (l : Lg) (p : Option Addr) (c : Nat) (q : Int) (w : World) (hF : LgFit l) (hi : -9223372036854775808 ≤ q ∧ q ≤ 9223372036854775807) (hE : EnSl w (.slice p l.es.length c) l.es) :
    Calls Tryz.prog 82 #[.agg #[.int .i64 l.b, .int .i64 l.bt, .int .u16 l.j.ov, .int .u16 l.j.ox, .int .u16 l.j.ol, .int .i64 l.j.oe, .int .i64 l.j.ok, .int .u16 l.j.nv, .int .u16 l.j.nx, .int .u16 l.j.nl, .int .i64 l.j.ne, .int .i64 l.j.nk, .bool l.j.two, .slice p l.es.length c], .int .i64 q] w (LgEnd2 w.heap.size w (compactL l q).1 (compactL l q).2) := by
  obtain ⟨⟨T, b⟩, hT⟩ : ∃ x, termL l q = x := ⟨_, rfl⟩
  have HT := Lib.hid hT
  have HE := Lib.hid hE
  have HF := Lib.hid hF
  have hbw : Below w.heap.size w ((w.alloc (.cells #[.int .i64 l.b, .int .i64 l.bt, .int .u16 l.j.ov, .int .u16 l.j.ox, .int .u16 l.j.ol, .int .i64 l.j.oe, .int .i64 l.j.ok, .int .u16 l.j.nv, .int .u16 l.j.nx, .int .u16 l.j.nl, .int .i64 l.j.ne, .int .i64 l.j.nk, .bool l.j.two, .slice p l.es.length c] 30)).alloc (.cells #[.int .i64 0, .int .i64 0, .int .u16 0, .int .u16 0, .int .u16 0, .int .i64 0, .int .i64 0, .int .u16 0, .int .u16 0, .int .u16 0, .int .i64 0, .int .i64 0, .bool false, .slice none 0 0] 30)) := ((Below.refl _ w).alloc (Nat.le_refl _) _).alloc (by simp) _
  have HC := Lib.hid (term_any l p c q _ hF.b0 hF.b1 hF.n hi.1 hi.2 (HE.out.keep hbw (Nat.le_refl _)) HT)
  have HBW := Lib.hid hbw
  have hA0 := heap_prev (.cells #[.int .i64 0, .int .i64 0, .int .u16 0, .int .u16 0, .int .u16 0, .int .i64 0, .int .i64 0, .int .u16 0, .int .u16 0, .int .u16 0, .int .i64 0, .int .i64 0, .bool false, .slice none 0 0] 30) (heap_last w (.cells #[.int .i64 l.b, .int .i64 l.bt, .int .u16 l.j.ov, .int .u16 l.j.ox, .int .u16 l.j.ol, .int .i64 l.j.oe, .int .i64 l.j.ok, .int .u16 l.j.nv, .int .u16 l.j.nx, .int .u16 l.j.nl, .int .i64 l.j.ne, .int .i64 l.j.nk, .bool l.j.two, .slice p l.es.length c] 30))
  have hZ0 : ((w.alloc (.cells #[.int .i64 l.b, .int .i64 l.bt, .int .u16 l.j.ov, .int .u16 l.j.ox, .int .u16 l.j.ol, .int .i64 l.j.oe, .int .i64 l.j.ok, .int .u16 l.j.nv, .int .u16 l.j.nx, .int .u16 l.j.nl, .int .i64 l.j.ne, .int .i64 l.j.nk, .bool l.j.two, .slice p l.es.length c] 30)).alloc (.cells #[.int .i64 0, .int .i64 0, .int .u16 0, .int .u16 0, .int .u16 0, .int .i64 0, .int .i64 0, .int .u16 0, .int .u16 0, .int .u16 0, .int .i64 0, .int .i64 0, .bool false, .slice none 0 0] 30)).heap[w.heap.size + 1]? = some (.cells #[.int .i64 0, .int .i64 0, .int .u16 0, .int .u16 0, .int .u16 0, .int .i64 0, .int .i64 0, .int .u16 0, .int .u16 0, .int .u16 0, .int .i64 0, .int .i64 0, .bool false, .slice none 0 0] 30 (0, 0)) := heap_atL (by simp)
  have HA0 := Lib.hid hA0; have HZ0 := Lib.hid hZ0
  clear hE hF hbw hA0 hZ0
  cases b with
  | false =>
    have HR : Hid (compactL l q = (⟨0, 0, jn0, []⟩, 1)) := by show _ = _; unfold compactL; rw [hT, if_neg (by simp)]
    clear hT
    go_enter Tryz.func82, Tryz.ntmps82
    go_wp2_with fail
    refine HC.out.mono ?_; rintro r w2 ⟨rfl, hb2⟩
    have hA2 := below_block hb2 (by simp; omega) HA0.out
    have hZ2 := below_block hb2 (by simp) HZ0.out
    have hB2 := HBW.out.trans (hb2.mono HBW.out.size)
    have HZ2 := Lib.hid hZ2; have HB2 := Lib.hid hB2
    have kZ := block_cells hZ2
    have fZ := block_free hZ2
    clear hb2 hA2 hZ2 hB2
    go_wp2_with fail
    have F := put14_ok HZ2.out HB2.out (by omega) (.int .i64 0) (.int .i64 0) (.int .u16 0) (.int .u16 0) (.int .u16 0) (.int .i64 0) (.int .i64 0) (.int .u16 0) (.int .u16 0) (.int .u16 0) (.int .i64 0) (.int .i64 0) (.bool false) (.slice none 0 0)
    have kF := block_cells F.1
    unfold put14 at F kF
    refine bodyPost_ret (v := .tuple #[.agg #[.int .i64 0, .int .i64 0, .int .u16 0, .int .u16 0, .int .u16 0, .int .i64 0, .int .i64 0, .int .u16 0, .int .u16 0, .int .u16 0, .int .i64 0, .int .i64 0, .bool false, .slice none 0 0], .int .i64 1]) ?_ rfl ?_
    · simp [results, Tryz.results82, go_sem, kF]
    · rw [HR.out]
      exact ⟨none, 0, rfl, World.ownsRow_nil _ _ _ _, F.2⟩
  | true =>
    have hkn := termL_known (show (termL l q).2 = true by rw [hT])
    obtain ⟨hto, hto2⟩ := hkn
    unfold Lg.last at hto2
    have hb0 := HF.out.b0; have hb1 := HF.out.b1; have hn := HF.out.n
    obtain ⟨n, hnn⟩ := Int.eq_ofNat_of_zero_le (show 0 ≤ q - l.b by omega)
    have hnl : n ≤ l.es.length := by omega
    have HN := Lib.hid hnn
    have HR : Hid (compactL l q = (⟨q, T, confL (frontL l n []), l.es.drop n⟩, 0)) := by
      show _ = _; unfold compactL; rw [hT, if_pos rfl, hnn]; simp [confL, frontL]
    clear hT
    go_enter Tryz.func82, Tryz.ntmps82
    go_wp2_with fail
    refine HC.out.mono ?_; rintro r w2 ⟨rfl, hb2⟩
    have HA2 := Lib.hid (below_block hb2 (by simp; omega) HA0.out)
    have HZ2 := Lib.hid (below_block hb2 (by simp) HZ0.out)
    have HB2 := Lib.hid (HBW.out.trans (hb2.mono HBW.out.size))
    have kA := block_cells HA2.out
    clear hb2
    go_upto_region 5 with fail
    go_wp2_with fail
    obtain ⟨f, hf⟩ : ∃ f, frontL l n [] = f := ⟨_, rfl⟩
    have hfl : f.es.length = n := by rw [← hf]; simp [frontL]; omega
    have h3 := front_any l p c n [] none 0 w2 hnl (HE.out.keep HB2.out (Nat.le_refl _)) (EnSl.nil _) (by simpa using hn)
    rw [hf] at h3 HR
    refine h3.mono ?_
    rintro r w3 ⟨p3, c3, rfl, ho3, hb3⟩
    have HA3 := Lib.hid (below_block hb3 (block_lt HA2.out) HA2.out)
    have HZ3 := Lib.hid (below_block hb3 (block_lt HZ2.out) HZ2.out)
    have HB3 := Lib.hid (HB2.out.trans (hb3.mono HB2.out.size))
    have hC3 := conf_any f p3 c3 w3 (by omega) (EnSl.of_own ho3)
    obtain ⟨J, hJ⟩ : ∃ J, confL f = J := ⟨_, rfl⟩
    rw [hJ] at hC3 HR
    have HC3 := Lib.hid hC3
    clear hf hfl h3 ho3 hb3 hJ hC3 kA
    go_wp2_with fail
    refine HC3.out.mono ?_; rintro r w4 ⟨rfl, hb4⟩
    have HA4 := Lib.hid (below_block hb4 (block_lt HA3.out) HA3.out)
    have HZ4 := Lib.hid (below_block hb4 (block_lt HZ3.out) HZ3.out)
    have HB4 := Lib.hid (HB3.out.trans (hb4.mono HB3.out.size))
    clear hb4
    go_upto_region 6 with fail
    obtain ⟨W, hW⟩ : ∃ W, w4.alloc (.cells #[.int .u16 J.ov, .int .u16 J.ox, .int .u16 J.ol, .int .i64 J.oe, .int .i64 J.ok, .int .u16 J.nv, .int .u16 J.nx, .int .u16 J.nl, .int .i64 J.ne, .int .i64 J.nk, .bool J.two] 27) = W := ⟨_, rfl⟩
    obtain ⟨A9, hA9⟩ : ∃ A9, w4.heap.size = A9 := ⟨_, rfl⟩
    have hJ9 : W.heap[A9]? = some (.cells #[.int .u16 J.ov, .int .u16 J.ox, .int .u16 J.ol, .int .i64 J.oe, .int .i64 J.ok, .int .u16 J.nv, .int .u16 J.nx, .int .u16 J.nl, .int .i64 J.ne, .int .i64 J.nk, .bool J.two] 27 (0, 0)) := by rw [← hW, ← hA9]; exact heap_last w4 _
    have hAW : W.heap[w.heap.size]? = some (.cells #[.int .i64 l.b, .int .i64 l.bt, .int .u16 l.j.ov, .int .u16 l.j.ox, .int .u16 l.j.ol, .int .i64 l.j.oe, .int .i64 l.j.ok, .int .u16 l.j.nv, .int .u16 l.j.nx, .int .u16 l.j.nl, .int .i64 l.j.ne, .int .i64 l.j.nk, .bool l.j.two, .slice p l.es.length c] 30 (0, 0)) := by rw [← hW]; exact heap_prev _ HA4.out
    have hZW : W.heap[w.heap.size + 1]? = some (.cells #[.int .i64 0, .int .i64 0, .int .u16 0, .int .u16 0, .int .u16 0, .int .i64 0, .int .i64 0, .int .u16 0, .int .u16 0, .int .u16 0, .int .i64 0, .int .i64 0, .bool false, .slice none 0 0] 30 (0, 0)) := by rw [← hW]; exact heap_prev _ HZ4.out
    have hBW : Below w.heap.size w W := by rw [← hW]; exact HB4.out.alloc HB4.out.size _
    have HJ9 := Lib.hid hJ9; have HAW := Lib.hid hAW; have HZW := Lib.hid hZW; have HBW' := Lib.hid hBW
    rw [hW, hA9]
    have kJ := block_cells hJ9
    have kA := block_cells hAW
    have kZ := block_cells hZW
    have fZ := block_free hZW
    clear hW hA9 hJ9 hAW hZW hBW
    obtain ⟨p', c', he, hc1, hc2⟩ := HE.out.form
    simp only [Value.slice.injEq] at he
    obtain ⟨rfl, -, rfl⟩ := he
    unfold maxLen at hc2
    have hnc : n ≤ c := by omega
    have HSW : Hid (w.heap.size + 2 ≤ W.heap.size) := Nat.succ_le_of_lt (block_lt HZW.out)
    by_cases hcn : c = n
    · have hnl' : n = l.es.length := by omega
      have hd0 : l.es.drop n = [] := by rw [hnl']; simp
      rw [hd0] at HR
      have HCL : Hid (Calls Tryz.prog 138 #[.slice p 0 0] W.drew fun r w' => ∃ p5 c5, r = .returned (.slice p5 0 c5) ∧ w'.ownsRow W.heap.size 47 14 (.slice p5 0 c5) 0 (entRow []) ∧ Below W.heap.size W w') := by
        have h0 := EnSl.drop0 (w := W.drew) (q := p) (c' := 0) (L := ([] : List Ent)) (k := 0) (Nat.le_refl _) (Nat.zero_le _) (fun _ => rfl)
        refine (clone_any _ [] W.drew h0 (by simp)).mono ?_
        rintro r w' ⟨v, rfl, ho, hb⟩
        obtain ⟨p5, c5, rfl⟩ := own_slice ho
        exact ⟨p5, c5, rfl, ho, ((Below.refl _ _).drew).trans hb⟩
      have HLAST : Hid (∀ (W' : World) (v : Value), W'.ownsRow w.heap.size 47 14 v 0 (entRow []) → W'.ownsRow w.heap.size 47 14 v 0 (entRow [])) := fun _ _ h => h
      clear hd0 hnl'
      subst hcn
      go_region_with ((go_at_call 138; refine HCL.out.mono ?_; rintro r w5 ⟨p5, c5, rfl, ho5, hb5⟩; have hZ5 := below_block hb5 (block_lt HZW.out) HZW.out; have kJ5 := block_cells (below_block hb5 (block_lt HJ9.out) HJ9.out); have kZ5 := block_cells hZ5; have fZ5 := block_free hZ5; have HZ5 := Lib.hid hZ5; have HB5 := Lib.hid (HBW'.out.trans (hb5.mono HBW'.out.size)); have HO5 := Lib.hid ho5; clear ho5 hb5 hZ5))
      all_goals (
        go_wp2_with fail
        have F := put14_ok HZ5.out HB5.out (Nat.le_succ _) (.int .i64 q) (.int .i64 T) (.int .u16 J.ov) (.int .u16 J.ox) (.int .u16 J.ol) (.int .i64 J.oe) (.int .i64 J.ok) (.int .u16 J.nv) (.int .u16 J.nx) (.int .u16 J.nl) (.int .i64 J.ne) (.int .i64 J.nk) (.bool J.two) (.slice p5 0 c5)
        have kF := block_cells F.1
        have G := own_farL HO5.out (put14_grown w5 (w.heap.size + 1) (.int .i64 q) (.int .i64 T) (.int .u16 J.ov) (.int .u16 J.ox) (.int .u16 J.ol) (.int .i64 J.oe) (.int .i64 J.ok) (.int .u16 J.nv) (.int .u16 J.nx) (.int .u16 J.nl) (.int .i64 J.ne) (.int .i64 J.nk) (.bool J.two) (.slice p5 0 c5)) (Nat.lt_of_lt_of_le (Nat.lt_succ_self _) HSW.out)
        unfold put14 at F kF G
        refine bodyPost_ret (v := .tuple #[.agg #[.int .i64 q, .int .i64 T, .int .u16 J.ov, .int .u16 J.ox, .int .u16 J.ol, .int .i64 J.oe, .int .i64 J.ok, .int .u16 J.nv, .int .u16 J.nx, .int .u16 J.nl, .int .i64 J.ne, .int .i64 J.nk, .bool J.two, .slice p5 0 c5], .int .i64 0]) ?_ rfl ?_
        · simp [results, Tryz.results82, go_sem, kF]
        · rw [HR.out]
          refine ⟨p5, c5, rfl, ?_, F.2⟩
          exact HLAST.out _ _ (G.mono (by have := HBW'.out.size; omega)))
    · have hld : (l.es.drop n).length = l.es.length - n := by rw [List.length_drop]
      have HCL : Hid (Calls Tryz.prog 138 #[.slice (Option.map (fun x => x.add (n * 14)) p) (l.es.length - n) (c - n)] W.drew fun r w' => ∃ p5 c5, r = .returned (.slice p5 (l.es.length - n) c5) ∧ w'.ownsRow W.heap.size 47 14 (.slice p5 (l.es.length - n) c5) (l.es.length - n) (entRow (l.es.drop n)) ∧ Below W.heap.size W w') := by
        have h0 := (HE.out.keep (HBW'.out.trans ((Below.refl _ _).drew.mono HBW'.out.size)) (Nat.le_refl _)).drop_if (w := W.drew) hnl
        rw [if_neg hcn] at h0
        refine (clone_any _ (l.es.drop n) W.drew h0 (by omega)).mono ?_
        rintro r w' ⟨v, rfl, ho, hb⟩
        obtain ⟨p5, c5, rfl⟩ := own_slice ho
        rw [hld] at ho ⊢
        exact ⟨p5, c5, rfl, ho, ((Below.refl _ _).drew).trans hb⟩
      have HLAST : Hid (∀ (W' : World) (p5 : Option Addr) (c5 : Nat), W'.ownsRow w.heap.size 47 14 (.slice p5 (l.es.length - n) c5) (l.es.length - n) (entRow (l.es.drop n)) → W'.ownsRow w.heap.size 47 14 (.slice p5 (l.es.drop n).length c5) (l.es.drop n).length (entRow (l.es.drop n))) := fun _ _ _ h => by rw [hld]; exact h
      have HLE : Hid (∀ p5 c5, Ending.returned (.tuple #[.agg #[.int .i64 q, .int .i64 T, .int .u16 J.ov, .int .u16 J.ox, .int .u16 J.ol, .int .i64 J.oe, .int .i64 J.ok, .int .u16 J.nv, .int .u16 J.nx, .int .u16 J.nl, .int .i64 J.ne, .int .i64 J.nk, .bool J.two, .slice p5 (l.es.length - n) c5], .int .i64 0]) = Ending.returned (.tuple #[.agg #[.int .i64 q, .int .i64 T, .int .u16 J.ov, .int .u16 J.ox, .int .u16 J.ol, .int .i64 J.oe, .int .i64 J.ok, .int .u16 J.nv, .int .u16 J.nx, .int .u16 J.nl, .int .i64 J.ne, .int .i64 J.nk, .bool J.two, .slice p5 (l.es.drop n).length c5], .int .i64 0])) := fun _ _ => by rw [hld]
      clear hld
      go_region_with ((go_at_call 138; refine HCL.out.mono ?_; rintro r w5 ⟨p5, c5, rfl, ho5, hb5⟩; have hZ5 := below_block hb5 (block_lt HZW.out) HZW.out; have kJ5 := block_cells (below_block hb5 (block_lt HJ9.out) HJ9.out); have kZ5 := block_cells hZ5; have fZ5 := block_free hZ5; have HZ5 := Lib.hid hZ5; have HB5 := Lib.hid (HBW'.out.trans (hb5.mono HBW'.out.size)); have HO5 := Lib.hid ho5; clear ho5 hb5 hZ5))
      all_goals (
        go_wp2_with fail
        have F := put14_ok HZ5.out HB5.out (Nat.le_succ _) (.int .i64 q) (.int .i64 T) (.int .u16 J.ov) (.int .u16 J.ox) (.int .u16 J.ol) (.int .i64 J.oe) (.int .i64 J.ok) (.int .u16 J.nv) (.int .u16 J.nx) (.int .u16 J.nl) (.int .i64 J.ne) (.int .i64 J.nk) (.bool J.two) (.slice p5 (l.es.length - n) c5)
        have kF := block_cells F.1
        have G := own_farL HO5.out (put14_grown w5 (w.heap.size + 1) (.int .i64 q) (.int .i64 T) (.int .u16 J.ov) (.int .u16 J.ox) (.int .u16 J.ol) (.int .i64 J.oe) (.int .i64 J.ok) (.int .u16 J.nv) (.int .u16 J.nx) (.int .u16 J.nl) (.int .i64 J.ne) (.int .i64 J.nk) (.bool J.two) (.slice p5 (l.es.length - n) c5)) (Nat.lt_of_lt_of_le (Nat.lt_succ_self _) HSW.out)
        unfold put14 at F kF G
        refine bodyPost_ret (v := .tuple #[.agg #[.int .i64 q, .int .i64 T, .int .u16 J.ov, .int .u16 J.ox, .int .u16 J.ol, .int .i64 J.oe, .int .i64 J.ok, .int .u16 J.nv, .int .u16 J.nx, .int .u16 J.nl, .int .i64 J.ne, .int .i64 J.nk, .bool J.two, .slice p5 (l.es.length - n) c5], .int .i64 0]) ?_ rfl ?_
        · simp [results, Tryz.results82, go_sem, kF]
        · rw [HR.out]
          refine ⟨p5, c5, HLE.out _ _, ?_, F.2⟩
          exact HLAST.out _ _ _ (G.mono (by have := HBW'.out.size; omega)))
end Go.Proofs.YtbnndbdnejfehaaGreatDoor
/- entries: Merge: what its memory keeps. -/
namespace Go.Proofs.YtbnndbdnejfehaaGreatDoor
open Go.ChangeShapes Go.WideShapes Go.ChangeAt Go.RowKit

/-- A log in a memory of its own, a number, and whether it is well. -/
def LgEnd3 (B : Nat) (w : World) (x : Lg × Int × Bool) (r : Ending) (w' : World) : Prop :=
  ∃ p c, r = .returned (.tuple #[.agg #[.int .i64 x.1.b, .int .i64 x.1.bt, .int .u16 x.1.j.ov, .int .u16 x.1.j.ox, .int .u16 x.1.j.ol, .int .i64 x.1.j.oe, .int .i64 x.1.j.ok, .int .u16 x.1.j.nv, .int .u16 x.1.j.nx, .int .u16 x.1.j.nl, .int .i64 x.1.j.ne, .int .i64 x.1.j.nk, .bool x.1.j.two, .slice p x.1.es.length c], .int .i64 x.2.1, .bool x.2.2]) ∧ w'.ownsRow B 47 14 (.slice p x.1.es.length c) x.1.es.length (entRow x.1.es) ∧ Below w.heap.size w w'
structure MgW (w : World) (l : Lg) (p : Option Addr) (c : Nat) (p3 : Option Addr) (c3 A : Nat) (W : World) : Prop where
  a : W.heap[w.heap.size]? = some (.cells #[.int .i64 l.b, .int .i64 l.bt, .int .u16 l.j.ov, .int .u16 l.j.ox, .int .u16 l.j.ol, .int .i64 l.j.oe, .int .i64 l.j.ok, .int .u16 l.j.nv, .int .u16 l.j.nx, .int .u16 l.j.nl, .int .i64 l.j.ne, .int .i64 l.j.nk, .bool l.j.two, .slice p l.es.length c] 30 (0, 0))
  z : W.heap[w.heap.size + 1]? = some (.cells #[.int .i64 0, .int .i64 0, .int .u16 0, .int .u16 0, .int .u16 0, .int .i64 0, .int .i64 0, .int .u16 0, .int .u16 0, .int .u16 0, .int .i64 0, .int .i64 0, .bool false, .slice none 0 0] 30 (0, 0))
  t : W.heap[A]? = some (.cells #[.int .i64 l.b, .int .i64 l.bt, .int .u16 l.j.ov, .int .u16 l.j.ox, .int .u16 l.j.ol, .int .i64 l.j.oe, .int .i64 l.j.ok, .int .u16 l.j.nv, .int .u16 l.j.nx, .int .u16 l.j.nl, .int .i64 l.j.ne, .int .i64 l.j.nk, .bool l.j.two, .slice p3 l.es.length c3] 30 (0, 0))
  o : W.ownsRow (w.heap.size + 2) 47 14 (.slice p3 l.es.length c3) l.es.length (entRow l.es)
  b : Below w.heap.size w W
  s : w.heap.size + 2 ≤ W.heap.size
theorem MgW.keep {w : World} {l : Lg} {p : Option Addr} {c : Nat} {p3 : Option Addr} {c3 A : Nat} {W W' : World} (h : MgW w l p c p3 c3 A W) (hb : Below W.heap.size W W') : MgW w l p c p3 c3 A W' :=
  ⟨below_block hb (block_lt h.a) h.a, below_block hb (block_lt h.z) h.z, below_block hb (block_lt h.t) h.t, own_belowL h.o hb (Nat.le_refl _), h.b.trans (hb.mono h.b.size), Nat.le_trans h.s hb.size⟩
theorem MgW.alloc {w : World} {l : Lg} {p : Option Addr} {c : Nat} {p3 : Option Addr} {c3 A : Nat} {W : World} (h : MgW w l p c p3 c3 A W) (o : Obj) : MgW w l p c p3 c3 A (W.alloc o) := h.keep ((Below.refl _ _).alloc (Nat.le_refl _) _)
theorem MgW.same {w : World} {l : Lg} {p : Option Addr} {c : Nat} {p3 : Option Addr} {c3 A : Nat} {W : World} (h : MgW w l p c p3 c3 A W) {n : Int} {b : Bool} {x : Lg × Int × Bool} (hx : Hid (x = (l, n, b))) :
    (∀ j, (put14 W (w.heap.size + 1) (.int .i64 l.b) (.int .i64 l.bt) (.int .u16 l.j.ov) (.int .u16 l.j.ox) (.int .u16 l.j.ol) (.int .i64 l.j.oe) (.int .i64 l.j.ok) (.int .u16 l.j.nv) (.int .u16 l.j.nx) (.int .u16 l.j.nl) (.int .i64 l.j.ne) (.int .i64 l.j.nk) (.bool l.j.two) (.slice p3 l.es.length c3)).cell? ⟨w.heap.size + 1, j, none⟩ = #[.int .i64 l.b, .int .i64 l.bt, .int .u16 l.j.ov, .int .u16 l.j.ox, .int .u16 l.j.ol, .int .i64 l.j.oe, .int .i64 l.j.ok, .int .u16 l.j.nv, .int .u16 l.j.nx, .int .u16 l.j.nl, .int .i64 l.j.ne, .int .i64 l.j.nk, .bool l.j.two, .slice p3 l.es.length c3][j]?) ∧ LgEnd3 w.heap.size w x (.returned (.tuple #[.agg #[.int .i64 l.b, .int .i64 l.bt, .int .u16 l.j.ov, .int .u16 l.j.ox, .int .u16 l.j.ol, .int .i64 l.j.oe, .int .i64 l.j.ok, .int .u16 l.j.nv, .int .u16 l.j.nx, .int .u16 l.j.nl, .int .i64 l.j.ne, .int .i64 l.j.nk, .bool l.j.two, .slice p3 l.es.length c3], .int .i64 n, .bool b])) (put14 W (w.heap.size + 1) (.int .i64 l.b) (.int .i64 l.bt) (.int .u16 l.j.ov) (.int .u16 l.j.ox) (.int .u16 l.j.ol) (.int .i64 l.j.oe) (.int .i64 l.j.ok) (.int .u16 l.j.nv) (.int .u16 l.j.nx) (.int .u16 l.j.nl) (.int .i64 l.j.ne) (.int .i64 l.j.nk) (.bool l.j.two) (.slice p3 l.es.length c3)) := by
  have F := put14_ok h.z h.b (Nat.le_succ _) (.int .i64 l.b) (.int .i64 l.bt) (.int .u16 l.j.ov) (.int .u16 l.j.ox) (.int .u16 l.j.ol) (.int .i64 l.j.oe) (.int .i64 l.j.ok) (.int .u16 l.j.nv) (.int .u16 l.j.nx) (.int .u16 l.j.nl) (.int .i64 l.j.ne) (.int .i64 l.j.nk) (.bool l.j.two) (.slice p3 l.es.length c3)
  have G := own_farL h.o (put14_grown W (w.heap.size + 1) (.int .i64 l.b) (.int .i64 l.bt) (.int .u16 l.j.ov) (.int .u16 l.j.ox) (.int .u16 l.j.ol) (.int .i64 l.j.oe) (.int .i64 l.j.ok) (.int .u16 l.j.nv) (.int .u16 l.j.nx) (.int .u16 l.j.nl) (.int .i64 l.j.ne) (.int .i64 l.j.nk) (.bool l.j.two) (.slice p3 l.es.length c3)) (Nat.lt_succ_self _)
  refine ⟨block_cells F.1, ?_⟩
  have hx' := hx.out
  subst hx'
  exact ⟨p3, c3, rfl, G.mono (Nat.le_add_right _ _), F.2⟩
theorem MgW.start {w : World} {l : Lg} {p : Option Addr} {c : Nat} (hE : EnSl w (.slice p l.es.length c) l.es) (hn : l.es.length ≤ 1000000) : Calls Tryz.prog 137 #[.agg #[.int .i64 l.b, .int .i64 l.bt, .int .u16 l.j.ov, .int .u16 l.j.ox, .int .u16 l.j.ol, .int .i64 l.j.oe, .int .i64 l.j.ok, .int .u16 l.j.nv, .int .u16 l.j.nx, .int .u16 l.j.nl, .int .i64 l.j.ne, .int .i64 l.j.nk, .bool l.j.two, .slice p l.es.length c], .int .i64 l.es.length, .slice none 0 0] ((w.alloc (.cells #[.int .i64 l.b, .int .i64 l.bt, .int .u16 l.j.ov, .int .u16 l.j.ox, .int .u16 l.j.ol, .int .i64 l.j.oe, .int .i64 l.j.ok, .int .u16 l.j.nv, .int .u16 l.j.nx, .int .u16 l.j.nl, .int .i64 l.j.ne, .int .i64 l.j.nk, .bool l.j.two, .slice p l.es.length c] 30)).alloc (.cells #[.int .i64 0, .int .i64 0, .int .u16 0, .int .u16 0, .int .u16 0, .int .i64 0, .int .i64 0, .int .u16 0, .int .u16 0, .int .u16 0, .int .i64 0, .int .i64 0, .bool false, .slice none 0 0] 30)) fun r w' =>
    ∃ p3 c3, r = .returned (.agg #[.int .i64 l.b, .int .i64 l.bt, .int .u16 l.j.ov, .int .u16 l.j.ox, .int .u16 l.j.ol, .int .i64 l.j.oe, .int .i64 l.j.ok, .int .u16 l.j.nv, .int .u16 l.j.nx, .int .u16 l.j.nl, .int .i64 l.j.ne, .int .i64 l.j.nk, .bool l.j.two, .slice p3 l.es.length c3]) ∧ MgW w l p c p3 c3 w'.heap.size (w'.alloc (.cells #[.int .i64 l.b, .int .i64 l.bt, .int .u16 l.j.ov, .int .u16 l.j.ox, .int .u16 l.j.ol, .int .i64 l.j.oe, .int .i64 l.j.ok, .int .u16 l.j.nv, .int .u16 l.j.nx, .int .u16 l.j.nl, .int .i64 l.j.ne, .int .i64 l.j.nk, .bool l.j.two, .slice p3 l.es.length c3] 30)) := by
  have hbw : Below w.heap.size w ((w.alloc (.cells #[.int .i64 l.b, .int .i64 l.bt, .int .u16 l.j.ov, .int .u16 l.j.ox, .int .u16 l.j.ol, .int .i64 l.j.oe, .int .i64 l.j.ok, .int .u16 l.j.nv, .int .u16 l.j.nx, .int .u16 l.j.nl, .int .i64 l.j.ne, .int .i64 l.j.nk, .bool l.j.two, .slice p l.es.length c] 30)).alloc (.cells #[.int .i64 0, .int .i64 0, .int .u16 0, .int .u16 0, .int .u16 0, .int .i64 0, .int .i64 0, .int .u16 0, .int .u16 0, .int .u16 0, .int .i64 0, .int .i64 0, .bool false, .slice none 0 0] 30)) := ((Below.refl _ w).alloc (Nat.le_refl _) _).alloc (by simp) _
  have hA0 := heap_prev (.cells #[.int .i64 0, .int .i64 0, .int .u16 0, .int .u16 0, .int .u16 0, .int .i64 0, .int .i64 0, .int .u16 0, .int .u16 0, .int .u16 0, .int .i64 0, .int .i64 0, .bool false, .slice none 0 0] 30) (heap_last w (.cells #[.int .i64 l.b, .int .i64 l.bt, .int .u16 l.j.ov, .int .u16 l.j.ox, .int .u16 l.j.ol, .int .i64 l.j.oe, .int .i64 l.j.ok, .int .u16 l.j.nv, .int .u16 l.j.nx, .int .u16 l.j.nl, .int .i64 l.j.ne, .int .i64 l.j.nk, .bool l.j.two, .slice p l.es.length c] 30))
  have hZ0 : ((w.alloc (.cells #[.int .i64 l.b, .int .i64 l.bt, .int .u16 l.j.ov, .int .u16 l.j.ox, .int .u16 l.j.ol, .int .i64 l.j.oe, .int .i64 l.j.ok, .int .u16 l.j.nv, .int .u16 l.j.nx, .int .u16 l.j.nl, .int .i64 l.j.ne, .int .i64 l.j.nk, .bool l.j.two, .slice p l.es.length c] 30)).alloc (.cells #[.int .i64 0, .int .i64 0, .int .u16 0, .int .u16 0, .int .u16 0, .int .i64 0, .int .i64 0, .int .u16 0, .int .u16 0, .int .u16 0, .int .i64 0, .int .i64 0, .bool false, .slice none 0 0] 30)).heap[w.heap.size + 1]? = some (.cells #[.int .i64 0, .int .i64 0, .int .u16 0, .int .u16 0, .int .u16 0, .int .i64 0, .int .i64 0, .int .u16 0, .int .u16 0, .int .u16 0, .int .i64 0, .int .i64 0, .bool false, .slice none 0 0] 30 (0, 0)) := heap_atL (by simp)
  have h3 := front_any l p c l.es.length [] none 0 _ (Nat.le_refl _) (hE.keep hbw (Nat.le_refl _)) (EnSl.nil _) (by simpa using hn)
  rw [frontL_all] at h3
  refine h3.mono ?_
  rintro r w2 ⟨p3, c3, rfl, ho, hb⟩
  have hs2 : w.heap.size + 2 ≤ w2.heap.size := by have := hb.size; simp at this; omega
  refine ⟨p3, c3, rfl, heap_prev _ (below_block hb (block_lt hA0) hA0), heap_prev _ (below_block hb (block_lt hZ0) hZ0), heap_last w2 _, ?_, ?_, ?_⟩
  · exact own_belowL (ho.mono (base' := w.heap.size + 2) (by simp)) ((Below.refl _ w2).alloc (Nat.le_refl _) _) (Nat.le_refl _)
  · exact (hbw.trans (hb.mono hbw.size)).alloc (by omega) _
  · simp; omega
theorem MgW.front {w : World} {l : Lg} {p : Option Addr} {c : Nat} {p3 : Option Addr} {c3 A : Nat} {W w8 : World} (h : MgW w l p c p3 c3 A W) {f : Lg} {p5 : Option Addr} {c5 : Nat} (ho : w8.ownsRow W.heap.size 47 14 (.slice p5 f.es.length c5) f.es.length (entRow f.es)) (hb : Below W.heap.size W w8) {n : Int} {x : Lg × Int × Bool} (hx : Hid (x = (f, n, true))) :
    (∀ j, (put14 w8 (w.heap.size + 1) (.int .i64 f.b) (.int .i64 f.bt) (.int .u16 f.j.ov) (.int .u16 f.j.ox) (.int .u16 f.j.ol) (.int .i64 f.j.oe) (.int .i64 f.j.ok) (.int .u16 f.j.nv) (.int .u16 f.j.nx) (.int .u16 f.j.nl) (.int .i64 f.j.ne) (.int .i64 f.j.nk) (.bool f.j.two) (.slice p5 f.es.length c5)).cell? ⟨w.heap.size + 1, j, none⟩ = #[.int .i64 f.b, .int .i64 f.bt, .int .u16 f.j.ov, .int .u16 f.j.ox, .int .u16 f.j.ol, .int .i64 f.j.oe, .int .i64 f.j.ok, .int .u16 f.j.nv, .int .u16 f.j.nx, .int .u16 f.j.nl, .int .i64 f.j.ne, .int .i64 f.j.nk, .bool f.j.two, .slice p5 f.es.length c5][j]?) ∧ LgEnd3 w.heap.size w x (.returned (.tuple #[.agg #[.int .i64 f.b, .int .i64 f.bt, .int .u16 f.j.ov, .int .u16 f.j.ox, .int .u16 f.j.ol, .int .i64 f.j.oe, .int .i64 f.j.ok, .int .u16 f.j.nv, .int .u16 f.j.nx, .int .u16 f.j.nl, .int .i64 f.j.ne, .int .i64 f.j.nk, .bool f.j.two, .slice p5 f.es.length c5], .int .i64 n, .bool true])) (put14 w8 (w.heap.size + 1) (.int .i64 f.b) (.int .i64 f.bt) (.int .u16 f.j.ov) (.int .u16 f.j.ox) (.int .u16 f.j.ol) (.int .i64 f.j.oe) (.int .i64 f.j.ok) (.int .u16 f.j.nv) (.int .u16 f.j.nx) (.int .u16 f.j.nl) (.int .i64 f.j.ne) (.int .i64 f.j.nk) (.bool f.j.two) (.slice p5 f.es.length c5)) := by
  have h8 := h.keep hb
  have F := put14_ok h8.z h8.b (Nat.le_succ _) (.int .i64 f.b) (.int .i64 f.bt) (.int .u16 f.j.ov) (.int .u16 f.j.ox) (.int .u16 f.j.ol) (.int .i64 f.j.oe) (.int .i64 f.j.ok) (.int .u16 f.j.nv) (.int .u16 f.j.nx) (.int .u16 f.j.nl) (.int .i64 f.j.ne) (.int .i64 f.j.nk) (.bool f.j.two) (.slice p5 f.es.length c5)
  have G := own_farL ho (put14_grown w8 (w.heap.size + 1) (.int .i64 f.b) (.int .i64 f.bt) (.int .u16 f.j.ov) (.int .u16 f.j.ox) (.int .u16 f.j.ol) (.int .i64 f.j.oe) (.int .i64 f.j.ok) (.int .u16 f.j.nv) (.int .u16 f.j.nx) (.int .u16 f.j.nl) (.int .i64 f.j.ne) (.int .i64 f.j.nk) (.bool f.j.two) (.slice p5 f.es.length c5)) (Nat.lt_of_lt_of_le (Nat.lt_succ_self _) h.s)
  refine ⟨block_cells F.1, ?_⟩
  have hx' := hx.out
  subst hx'
  exact ⟨p5, c5, rfl, G.mono (Nat.le_trans (Nat.le_add_right _ _) h.s), F.2⟩
def Taken (w : World) (f : Lg) (x : Lg × Int × Bool) (n : Int) (wx : World) : Prop := ∃ p5 c5, (∀ j, wx.cell? ⟨w.heap.size + 1, j, none⟩ = #[.int .i64 f.b, .int .i64 f.bt, .int .u16 f.j.ov, .int .u16 f.j.ox, .int .u16 f.j.ol, .int .i64 f.j.oe, .int .i64 f.j.ok, .int .u16 f.j.nv, .int .u16 f.j.nx, .int .u16 f.j.nl, .int .i64 f.j.ne, .int .i64 f.j.nk, .bool f.j.two, .slice p5 f.es.length c5][j]?) ∧ LgEnd3 w.heap.size w x (.returned (.tuple #[.agg #[.int .i64 f.b, .int .i64 f.bt, .int .u16 f.j.ov, .int .u16 f.j.ox, .int .u16 f.j.ol, .int .i64 f.j.oe, .int .i64 f.j.ok, .int .u16 f.j.nv, .int .u16 f.j.nx, .int .u16 f.j.nl, .int .i64 f.j.ne, .int .i64 f.j.nk, .bool f.j.two, .slice p5 f.es.length c5], .int .i64 n, .bool true])) wx
theorem MgW.took {w : World} {l : Lg} {p : Option Addr} {c : Nat} {p3 : Option Addr} {c3 A : Nat} {W w8 : World} (h : MgW w l p c p3 c3 A W) {f : Lg} {p5 : Option Addr} {c5 : Nat} (ho : w8.ownsRow W.heap.size 47 14 (.slice p5 f.es.length c5) f.es.length (entRow f.es)) (hb : Below W.heap.size W w8) {n : Int} {x : Lg × Int × Bool} (hx : Hid (x = (f, n, true))) : Taken w f x n (put14 w8 (w.heap.size + 1) (.int .i64 f.b) (.int .i64 f.bt) (.int .u16 f.j.ov) (.int .u16 f.j.ox) (.int .u16 f.j.ol) (.int .i64 f.j.oe) (.int .i64 f.j.ok) (.int .u16 f.j.nv) (.int .u16 f.j.nx) (.int .u16 f.j.nl) (.int .i64 f.j.ne) (.int .i64 f.j.nk) (.bool f.j.two) (.slice p5 f.es.length c5)) := ⟨p5, c5, h.front ho hb hx⟩
theorem wrap_ok {n : Int} (h0 : -4611686018427387904 ≤ n) (h1 : n < 4611686018427387904) : IntKind.i64.wrap n = n := by
  simp [IntKind.wrap, IntKind.bits, IntKind.signed]; omega
theorem EnSl.cells {w : World} {g o n c : Nat} {E : List Ent} (h : EnSl w (.slice (some ⟨g, o, none⟩) n c) E) (k : Nat) (hk : k < E.length) : g < w.heap.size ∧ ∀ j, j < 14 → w.cell? ⟨g, o + k * 14 + j, none⟩ = (entC E[k])[j]? := by
  obtain ⟨g', o', cap, hv, hg, hc⟩ := h.at k hk
  simp only [Value.slice.injEq, Option.some.injEq, Addr.mk.injEq, and_true] at hv
  obtain ⟨⟨rfl, rfl⟩, -⟩ := hv
  exact ⟨hg, hc⟩
/-- What is taken, from the k-th of the entries on. -/
theorem MgW.taken {w : World} {l : Lg} {p : Option Addr} {c : Nat} {p3 : Option Addr} {c3 A : Nat} {W : World} (h : MgW w l p c p3 c3 A W) (hE : EnSl w (.slice p l.es.length c) l.es) {g o c2 : Nat} {E : List Ent} (h2 : EnSl w (.slice (some ⟨g, o, none⟩) E.length c2) E) {m k : Nat} (hk : k < E.length) (hm : m ≤ l.es.length) (hl : l.es.length + E.length ≤ 1000000) {f : Lg} (hf : Hid (frontL l m (E.drop k) = f)) {N : Nat} (hN : Hid (E.length = N)) :
    Calls Tryz.prog 137 #[.agg #[.int .i64 l.b, .int .i64 l.bt, .int .u16 l.j.ov, .int .u16 l.j.ox, .int .u16 l.j.ol, .int .i64 l.j.oe, .int .i64 l.j.ok, .int .u16 l.j.nv, .int .u16 l.j.nx, .int .u16 l.j.nl, .int .i64 l.j.ne, .int .i64 l.j.nk, .bool l.j.two, .slice p l.es.length c], .int .i64 m, .slice (some ⟨g, o + k * 14, none⟩) (N - k) (c2 - k)] W.drew fun r w' => ∃ p5 c5, r = .returned (.agg #[.int .i64 f.b, .int .i64 f.bt, .int .u16 f.j.ov, .int .u16 f.j.ox, .int .u16 f.j.ol, .int .i64 f.j.oe, .int .i64 f.j.ok, .int .u16 f.j.nv, .int .u16 f.j.nx, .int .u16 f.j.nl, .int .i64 f.j.ne, .int .i64 f.j.nk, .bool f.j.two, .slice p5 f.es.length c5]) ∧ w'.ownsRow W.heap.size 47 14 (.slice p5 f.es.length c5) f.es.length (entRow f.es) ∧ Below W.heap.size W w' := by
  have hb : Below w.heap.size w W.drew := h.b.trans ((Below.refl _ _).drew.mono h.b.size)
  have h3 := (h2.keep hb (Nat.le_refl _)).drop (k := k) (by omega)
  have hm3 : Option.map (fun x => x.add (k * 14)) (some (⟨g, o, none⟩ : Addr)) = some ⟨g, o + k * 14, none⟩ := by simp [add_plain]
  rw [hm3] at h3
  have hld : (E.drop k).length = N - k := by rw [List.length_drop, hN.out]
  have h4 := front_any l p c m (E.drop k) _ (c2 - k) W.drew hm (hE.keep hb (Nat.le_refl _)) h3 (by rw [List.length_drop]; omega)
  rw [hf.out, hld] at h4
  refine h4.mono ?_
  rintro r w' ⟨p5, c5, rfl, ho, hb'⟩
  exact ⟨p5, c5, rfl, ho, ((Below.refl _ _).drew).trans hb'⟩
end Go.Proofs.YtbnndbdnejfehaaGreatDoor
