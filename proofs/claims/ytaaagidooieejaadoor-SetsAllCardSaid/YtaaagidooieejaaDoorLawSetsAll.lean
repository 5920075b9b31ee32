/- SetsAll: for every list of at most 30 numbers, every set and node: the set, the list, the count and the tests are what the reference answers; no condition (a longer list is let through). -/
import Derived.Test.YtaaagidooieejaaDoorBegun9
import Derived.Test.YtaaagidooieejaaDoorRefOf
import Derived.Test.YtaaagidooieejaaDoorTab
import Derived.Test.YtaaagidooieejaaDoorSlices
import Derived.Test.YtaaagidooieejaaDoorCards
import Derived.Test.YtaaagidooieejaaDoorTie
import Derived.SevenTiedAt
namespace Go.Proofs.YtaaagidooieejaaDoor
open Go.ChangeShapes Go.WideShapes Go.ChangeAt Go.RowKit

theorem wf_u16 {n : Int} (h : (Lit.int .u16 n).wf = true) : 0 ≤ n ∧ n ≤ 65535 := by
  have h1 : IntKind.u16.min = 0 := rfl
  have h2 : IntKind.u16.max = 65535 := rfl
  simp only [Lit.wf, Bool.and_eq_true, decide_eq_true_eq] at h; omega
theorem own_block {w : World} {base : Nat} {e : TypeId} {v : Value} {L : List Int} (h : w.ownsRow base e 1 v L.length (L.map (Value.int .i64))) (h0 : 0 < L.length) :
    ∃ g cap cur, v = .slice (some ⟨g, 0, none⟩) L.length cap ∧ base ≤ g ∧ w.heap[g]? = some (.cells cur e (0, 0)) ∧ ∀ j, (hj : j < L.length) → cur[j]? = some (.int .i64 L[j]) := by
  rcases h.2 with ⟨-, h1⟩ | ⟨g, cap, cur, rfl, hb, hg, hn, hm, hs, ht⟩
  · omega
  · refine ⟨g, cap, cur, rfl, hb, hg, fun j hj => ?_⟩
    have : (cur.toList.take (L.length * 1))[j]? = some (.int .i64 L[j]) := by rw [ht]; simp [hj]
    rw [List.getElem?_take_of_lt (by omega)] at this
    simpa using this
theorem own_none {w : World} {base : Nat} {e : TypeId} {v : Value} {L : List Int} (h : w.ownsRow base e 1 v L.length (L.map (Value.int .i64))) (h0 : L = []) : ∃ a cap, v = .slice a 0 cap := by
  subst h0
  rcases h.2 with ⟨rfl, h1⟩ | ⟨g, cap, cur, rfl, hb, hg, hn, hm, hs, ht⟩
  · exact ⟨_, _, rfl⟩
  · exact ⟨_, _, rfl⟩
theorem bstep {W0 W1 W2 : World} (h : Below W0.heap.size W0 W1) (k : Below W1.heap.size W1 W2) : Below W0.heap.size W0 W2 := h.trans (k.mono h.size)
theorem may_same9 (s : Int) (w : World) : Calls Tryd.prog 17 #[.int .u16 s] w fun e w' => e = .returned (.bool (mayB s)) ∧ w = w' := may_any s w
theorem count_is (s : Int) (w : World) (h0 : 0 ≤ s) {L : List Int} (h : Hid (lst s 9 = L)) :
    Calls Tryd.prog 10 #[.int .u16 s] w fun e w' => e = .returned (.int .i64 L.length) ∧ Below w.heap.size w w' := by
  have := count_any s w h0
  rw [show cnt s = L.length by unfold cnt; rw [h.out]] at this; exact this
theorem list_is (s : Int) (w : World) (h0 : 0 ≤ s) (ht : Hid (Tab w)) {L : List Int} (h : Hid (lst s 9 = L)) :
    Calls Tryd.prog 8 #[.int .u16 s] w fun e w' => ∃ v, e = .returned v ∧ w'.ownsRow w.heap.size 3 1 v L.length (L.map (Value.int .i64)) ∧ Below w.heap.size w w' := by
  have := list_any s w h0 ht.out
  rw [h.out] at this; exact this
theorem refList_is (s : Int) (w : World) (h0 : 0 ≤ s) (h1 : s ≤ 65535) {L : List Int} (h : Hid (lst s 9 = L)) :
    Calls Tryd.prog 9 #[.int .u16 s] w fun e w' => ∃ v, e = .returned v ∧ w'.ownsRow w.heap.size 3 1 v L.length (L.map (Value.int .i64)) ∧ Below w.heap.size w w' := by
  have := refList_any s w h0 h1
  rw [h.out] at this; exact this

set_option maxRecDepth 100000 in
set_option maxHeartbeats 4000000 in
theorem setsAll_walk (xs : List Int) (p : Option Addr) (cap : Nat) (s n : Int) (s0 : 0 ≤ s) (s1 : s ≤ 65535) (w : World) (ht : Tab w) (hx : xs.length ≤ maxLen)
    (hc : ∀ j, (h : j < xs.length) → ∃ a, p = some a ∧ w.cell? (a.add j) = some (.int .i64 xs[j])) :
    Calls Tryd.prog 3 #[.slice p xs.length cap, .int .u16 s, .int .i64 n] w fun r w' => r = .returned (.bool true) ∧ Below w.heap.size w w' := by
  unfold maxLen at hx
  have HC := Lib.hid hc
  have HT := Lib.hid ht
  clear hc ht
  by_cases hl : 30 < xs.length
  · go_enter Tryd.func3, Tryd.ntmps3
    go_wp2_with fail
    refine (begun9_any _).mono ?_; rintro r w1 ⟨rfl, hb1⟩
    go_wp2_with fail
    go_ret
    exact ⟨rfl, hb1⟩
  · obtain ⟨L, hL⟩ : ∃ L, lst s 9 = L := ⟨_, rfl⟩
    have hLn : L.length ≤ 9 := by rw [← hL]; exact lst_len s
    have HL := Lib.hid hL
    obtain ⟨F, hF⟩ : ∃ F, ofGo xs 0 = F := ⟨_, rfl⟩
    have HF := Lib.hid hF
    have hB0 := Lib.hid (bits_fit .or s (oneB n))
    clear hL hF
    go_enter Tryd.func3, Tryd.ntmps3
    go_wp2_with fail
    refine (begun9_any _).mono ?_; rintro r w1 ⟨rfl, hb1⟩
    have HB1 := Lib.hid hb1
    have HC1 : Hid (∀ j, (h : j < xs.length) → ∃ a, p = some a ∧ w1.cell? (a.add j) = some (.int .i64 xs[j])) := fun j h => by
      obtain ⟨a, e, hcell⟩ := HC.out j h
      refine ⟨a, e, ?_⟩
      rw [hb1.cell (World.block_lt_of_cell? w _ hcell)]; exact hcell
    have HT1 := Lib.hid (HT.out.keep hb1)
    clear hb1
    go_wp2_with fail
    refine (of_any xs p cap _ (by omega) HC1.out).mono ?_; rintro r w' ⟨rfl, rfl⟩; rw [HF.out]
    go_wp2_with fail
    refine (refOf_any xs p cap _ (by omega) HC1.out).mono ?_; rintro r w' ⟨rfl, rfl⟩; rw [HF.out]
    go_wp2_with fail
    refine (list_is s _ s0 HT1 HL).mono ?_; rintro r w2 ⟨va, rfl, hoa, hb2⟩
    have HOA := Lib.hid hoa
    have HB2 := Lib.hid hb2
    have hsz2 := hb2.size
    clear hoa hb2
    go_wp2_with fail
    refine (refList_is s _ s0 s1 HL).mono ?_; rintro r w3 ⟨vb, rfl, hob, hb3⟩
    have HOB := Lib.hid hob
    have HB3 := Lib.hid hb3
    have hsz3 := hb3.size
    clear hob hb3
    have hsz1 := HB1.out.size
    cases L with
    | nil =>
      obtain ⟨aa, ca, rfl⟩ := own_none HOA.out rfl
      obtain ⟨ab, cb, rfl⟩ := own_none HOB.out rfl
      go_wp2_with fail
      refine (count_is s _ s0 HL).mono ?_; rintro r w4 ⟨rfl, hb4⟩
      have HB4 := Lib.hid hb4
      clear hb4
      go_wp2_with fail
      refine (has_any s n _ s0).mono ?_; rintro r w' ⟨rfl, rfl⟩
      go_wp2_with fail
      refine (refHas_any s n _ s0 s1).mono ?_; rintro r w' ⟨rfl, rfl⟩
      go_wp2_with fail
      refine (with_any s n _).mono ?_; rintro r w' ⟨rfl, rfl⟩
      go_wp2_with fail
      refine (refWith_any s n _ s0 s1).mono ?_; rintro r w' ⟨rfl, rfl⟩
      go_wp2_with fail
      refine (less_any s n _).mono ?_; rintro r w' ⟨rfl, rfl⟩
      go_wp2_with fail
      refine (refLess_any s n _ s0 s1).mono ?_; rintro r w' ⟨rfl, rfl⟩
      go_wp2_with fail
      refine (may_same9 s _).mono ?_; rintro r w' ⟨rfl, rfl⟩
      go_wp2_with fail
      refine (refMay_any s _ s0 s1).mono ?_; rintro r w5 ⟨rfl, hb5⟩
      have HB5 := Lib.hid hb5
      clear hb5
      go_wp2_with fail
      go_loopw [13] (fun i wr => i = .int .i64 0 ∧ wr = w5) (fun _ _ => 0)
      case atStart => exact ⟨rfl, rfl⟩
      case round =>
        obtain ⟨rfl, rfl⟩ := hrel
        go_wp2_with fail
        go_ret
        exact ⟨rfl, bstep HB1.out (bstep HB2.out (bstep HB3.out (bstep HB4.out HB5.out)))⟩
    | cons x l =>
      obtain ⟨ga, ca, cua, rfl, ha1, ha2, ha3⟩ := own_block HOA.out (by simp)
      obtain ⟨gb, cb, cub, rfl, hb1, hb2, hb3⟩ := own_block HOB.out (by simp)
      have hga := block_lt ha2
      have hgb := block_lt hb2
      have HA3 := Lib.hid ha3
      have HB3' := Lib.hid hb3
      have HA2 := Lib.hid (below_block HB3.out hga ha2)
      have HB2' := Lib.hid hb2
      clear ha2 ha3 hb2 hb3
      obtain ⟨M, hM⟩ : ∃ M, x :: l = M := ⟨_, rfl⟩
      rw [hM] at HL hLn HOA HOB
      rw [hM]
      replace HA3 : Hid (∀ j, (hj : j < M.length) → cua[j]? = some (.int .i64 M[j])) := by subst hM; exact HA3
      replace HB3' : Hid (∀ j, (hj : j < M.length) → cub[j]? = some (.int .i64 M[j])) := by subst hM; exact HB3'
      clear hM
      go_wp2_with fail
      refine (count_is s _ s0 HL).mono ?_; rintro r w4 ⟨rfl, hb4⟩
      have HB4 := Lib.hid hb4
      clear hb4
      go_wp2_with fail
      refine (has_any s n _ s0).mono ?_; rintro r w' ⟨rfl, rfl⟩
      go_wp2_with fail
      refine (refHas_any s n _ s0 s1).mono ?_; rintro r w' ⟨rfl, rfl⟩
      go_wp2_with fail
      refine (with_any s n _).mono ?_; rintro r w' ⟨rfl, rfl⟩
      go_wp2_with fail
      refine (refWith_any s n _ s0 s1).mono ?_; rintro r w' ⟨rfl, rfl⟩
      go_wp2_with fail
      refine (less_any s n _).mono ?_; rintro r w' ⟨rfl, rfl⟩
      go_wp2_with fail
      refine (refLess_any s n _ s0 s1).mono ?_; rintro r w' ⟨rfl, rfl⟩
      go_wp2_with fail
      refine (may_same9 s _).mono ?_; rintro r w' ⟨rfl, rfl⟩
      go_wp2_with fail
      refine (refMay_any s _ s0 s1).mono ?_; rintro r w5 ⟨rfl, hb5⟩
      have HB5 := Lib.hid hb5
      clear hb5
      go_wp2_with fail
      have HAo : Hid (w5.heap[ga]? = some (.cells cua 3 (0, 0))) := below_block HB5.out (by have := HB4.out.size; have := HB3.out.size; omega) (below_block HB4.out (by have := HB3.out.size; omega) HA2.out)
      have HBo : Hid (w5.heap[gb]? = some (.cells cub 3 (0, 0))) := below_block HB5.out (by have := HB4.out.size; omega) (below_block HB4.out (by omega) HB2'.out)
      have HBel : Hid (Below w.heap.size w w5) := bstep HB1.out (bstep HB2.out (bstep HB3.out (bstep HB4.out HB5.out)))
      have hne : ga ≠ gb := by omega
      have hwa : w.heap.size ≤ ga := by omega
      clear HB1 HB2 HB3 HB4 HB5 HA2 HB2' HOA HOB
      go_loopw [13] (fun i wr => ∃ (k : Nat) (ca' : Array Value), k ≤ M.length ∧ i = .int .i64 k ∧ Hid (wr.heap[ga]? = some (.cells ca' 3 (0, 0))) ∧ Hid (∀ j, k ≤ j → (hj : j < M.length) → ca'[j]? = some (.int .i64 M[j])) ∧ Hid (wr.heap[gb]? = some (.cells cub 3 (0, 0))) ∧ Hid (Below w.heap.size w wr)) (fun i _ => M.length - (intOf i).toNat)
      case atStart => exact ⟨0, cua, by omega, rfl, HAo, fun j _ hj => HA3.out j hj, HBo, HBel⟩
      case round =>
        obtain ⟨k, ca', hk, rfl, ka, kA, kb, kbel⟩ := hrel
        by_cases hlt : k < M.length
        · have c1 : wr.cell? ⟨ga, k, none⟩ = some (.int .i64 M[k]) := by rw [block_cells ka.out]; exact kA.out k (Nat.le_refl _) hlt
          have c2 : wr.cell? ⟨gb, k, none⟩ = some (.int .i64 M[k]) := by rw [block_cells kb.out]; exact HB3'.out k hlt
          have f1 := block_free ka.out k
          obtain ⟨y, hy⟩ : ∃ y, M[k] = y := ⟨_, rfl⟩
          rw [hy] at c1 c2
          have HY := Lib.hid hy
          clear hy
          go_wp2_with fail
          go_quiet (fail)
          go_wp2_with fail
          go_roundw
          case rel => exact ⟨k + 1, ca'.setIfInBounds k (.int .i64 0), by omega, by go_num, cells_setCell (by exact ka.out), fun j h1 h2 => by rw [Array.getElem?_setIfInBounds_ne (by omega)]; exact kA.out j (by omega) h2, (Below.heap_setCell _ _ _ _ (by exact hne.symm)).trans (by exact kb.out), Below.setCell (below_drewN kbel.out _) hwa _⟩
          case measure => simp [intOf]; omega
        · go_wp2_with fail
          go_ret
          exact ⟨rfl, kbel.out⟩
theorem setsAll_sl (xs : List Int) (v : Value) (s n : Int) (s0 : 0 ≤ s) (s1 : s ≤ 65535) (w : World) (ht : Tab w) (hs : Sl w.heap.size w v 1 xs.length (xs.map (.int .i64))) :
    Calls Tryd.prog 3 #[v, .int .u16 s, .int .i64 n] w fun r w' => r = .returned (.bool true) ∧ Below w.heap.size w w' := by
  obtain ⟨a, cap, rfl, h1, h2, -, h3⟩ := hs.form
  refine setsAll_walk xs a cap s n s0 s1 w ht (by omega) fun j hj => ?_
  obtain ⟨g, o, rfl, -, hc⟩ := h3 j hj
  refine ⟨_, rfl, ?_⟩
  rw [add_plain, hc]; simp [hj]

set_option maxRecDepth 100000 in
theorem sall_lifted (os : Os) (started : os.Started) (H : Type) (enc : TypeId × Value → H) :
    ReturnsInHanded {} Tryd.checked os 3 .any (fun w args => (Rows.setsAllSpec.pre enc Tryd.prog Tryd.f3 [] false w args ∧ laidMetH Tryd.prog laidD w) ∧ sizedMet enc Tryd.prog Tryd.f3 (OpenSpec.ofChange Rows.setsAllSpec) false w args)
      (Rows.setsAllSpec.post enc Tryd.prog Tryd.f3 false true false false) := by
  refine lift_laid (C := Tryd.checked) (X := fun w => laidMetH Tryd.prog laidD w) tab_heap (tb := 4) (by kernel_rfl) started (by kernel_rfl) Tryd.func3 (ChangeSpec.witness_shaped (enc := enc) (C := Tryd.checked) (os := os) (X := fun w _ => laidMetH Tryd.prog laidD w) false (World.doorLaid Tryd.prog 400 os) #[.slice none 0 0, .int .u16 0, .int .i64 0] 8 rfl (World.shaped_of_RefB (by kernel_rfl) (by kernel_rfl)) (by kernel_rfl) (by kernel_rfl) (by kernel_rfl) (door_met os _)) (by kernel_rfl) (by kernel_rfl) rfl Tryd.underlying4 rfl ?_ ?_
  · intro ds h
    match ds, h with
    | [_, _, _], _ => rfl
  · intro W base args ds ps hval0 hA0 hlt hsz hX
    have hval : ∀ (j : Nat) t v, Tryd.f3.params[j]? = some t → args[j]? = some v → Value.okWide Tryd.prog W .any base t v := hval0
    have hA : DataW.TrodAll enc Tryd.prog W 0 (fun _ => true) true Tryd.f3.params.toList args.toList ds ps := hA0
    rw [Tryd.params3] at hA hval
    obtain ⟨v0, v1, v2, d0, d1, d2, p0, p1, p2, rfl, rfl, rfl, h0, h1, h2⟩ := trodAll_three hA
    obtain ⟨xs, hs, -⟩ := open_nums Tryd.underlying22 Tryd.underlying3 (by kernel_rfl) (hval 0 22 v0 rfl rfl) h0
    obtain ⟨s, rfl, rfl, rfl, ws⟩ := open_int Tryd.underlying24 (hval 1 24 v1 rfl rfl) h1
    obtain ⟨n, rfl, rfl, rfl, wn⟩ := open_int Tryd.underlying3 (hval 2 3 v2 rfl rfl) h2
    exact setsAll_sl xs v0 s n (wf_u16 ws).1 (wf_u16 ws).2 W (tab_of_laid hX) hs

theorem sall_holds : Rows.SetsAllSaid :=
  OpenClaim.holds_of_wide 3 Tryd.f3 rfl rfl rfl rfl rfl rfl rfl ⟨rfl, rfl, rfl, rfl, rfl⟩ rfl rfl rfl rfl rfl (by kernel_rfl) Tryd.func3 (by kernel_rfl)
    (of_decide_eq_true (by kernel_rfl)) (by unfold Func.isWrapper; first | (rw [if_pos (by decide +kernel)]; kernel_rfl) | (rw [if_neg (by decide +kernel)]; exact ⟨rfl, rfl⟩))
    (fun os started H enc _ => sall_lifted os started H enc)
theorem sall_card : Rows.SetsAllCardSaid :=
  Claim7.holds_tied_plain_at .later [] [.data] true (true, "2c37426e5871a29e352ac5a0095f777a39334ca82190d3581708861b5a7a9afd") false
    sall_holds (fun _ h => by cases h) (by kernel_rfl) (fun _ h => by cases h) setsAll_row_tie rfl ⟨rfl, rfl⟩ (by kernel_rfl) rfl
    (fun f fn hf hfn => by
      obtain rfl : f = 3 := Option.some.inj ((show Tryd.prog.funcNamed "antipode/antipodelaw9.SetsAll" = some 3 by kernel_rfl).symm.trans hf) |>.symm
      obtain rfl : fn = Tryd.f3 := (Option.some.inj (Tryd.func3.symm.trans hfn)).symm
      exact ⟨by kernel_rfl, fun j t ht => by
        rw [Tryd.params3] at ht
        have hm : t ∈ [22, 24, 3] := by simpa using Array.mem_of_getElem? ht
        have hall : ([22, 24, 3].all fun u => !Tryd.prog.wantsStandIn u) = true := by kernel_rfl
        exact (show Tryd.prog.wantsStandIn t = false by simpa using List.all_eq_true.1 hall t hm)⟩)
    (by kernel_rfl)
#print axioms sall_card

end Go.Proofs.YtaaagidooieejaaDoor
