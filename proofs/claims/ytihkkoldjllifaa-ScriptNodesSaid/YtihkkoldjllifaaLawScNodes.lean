/- ScriptNodes: for all bytes (1024 at most; more are let through) and whatever number of nodes: each event that is read names a node that there is, if it names one; no condition. -/
import Derived.Test.YtihkkoldjllifaaLawScReads
namespace Go.Proofs.Ytihkkoldjllifaa
open Go.ChangeShapes Go.WideShapes Go.ChangeAt Go.RowKit

set_option maxRecDepth 100000 in
set_option maxHeartbeats 16000000 in
theorem scnodes_walk (bv : Value) (nodes : Int) (xs : List Int) (hx : Oct xs) (w : World) (hs : Sl w.heap.size w bv 1 xs.length (byt xs)) :
    Calls Try.prog 6 #[bv, .int .i64 nodes] w fun r w' => r = .returned (.bool true) ∧ Below w.heap.size w w' := by
  have HS := Lib.hid hs
  have HX := Lib.hid hx
  obtain ⟨pa, ca, rfl, h1, h2, -, -⟩ := hs.form
  unfold maxLen at h2
  clear hs hx
  by_cases hl : 1024 < xs.length
  · go_enter Try.func6, Try.ntmps6
    go_wp2_with fail
    refine (begun29_any _).mono ?_; rintro r w1 ⟨rfl, hb⟩
    go_wp2_with fail
    go_ret
    exact ⟨rfl, hb⟩
  obtain ⟨N, hN⟩ : ∃ N, normN nodes = N := ⟨_, rfl⟩
  have h3 : nodes < 1 ∧ N = 1 ∨ 1 ≤ nodes ∧ 9 < nodes ∧ N = 1 ∨ 1 ≤ nodes ∧ nodes ≤ 9 ∧ N = nodes := by
    rw [← hN]; unfold normN; split <;> omega
  have hnamed := decA_named nodes xs HX.out
  rw [hN] at hnamed
  have HN := Lib.hid hnamed
  clear hN hnamed
  go_enter Try.func6, Try.ntmps6
  go_wp2_with fail
  refine (begun29_any _).mono ?_; rintro r w1 ⟨rfl, hb1⟩
  have S1 := Lib.hid ((HS.out.keep hb1).mono hb1.size)
  have B1 := Lib.hid hb1
  clear hb1
  go_wp2_with fail
  refine (decode_any _ xs nodes _ HX.out S1.out (by omega)).mono ?_; rintro r w3 ⟨v3, L, rfl, hmap, hown, hkp, hb3⟩
  have B3 := Lib.hid (B1.out.trans (hb3.mono B1.out.size))
  have HEv := Lib.hid (EvSl.of_own hown hkp)
  have hlen : L.length ≤ xs.length := by have := congrArg List.length hmap; rw [List.length_map] at this; rw [this]; exact decA_len nodes xs
  have HNM : Hid (∀ x ∈ L, Named N x.1) := fun x hx => HN.out x.1 (by rw [← hmap]; exact List.mem_map_of_mem hx)
  clear hmap hown hkp hb3
  obtain ⟨p3, c3, rfl, hc1, hc2⟩ := HEv.out.form
  unfold maxLen at hc2
  obtain ⟨U, f, hU, hf, hg⟩ := calm_class (w3); obtain ⟨u0, hu0⟩ := hg _ (Below.refl _ _); rw [hu0]; clear hu0
  have HBF : Hid (∀ u, Below w.heap.size w (f u)) := fun u => B3.out.trans ((hf u).mono B3.out.size)
  have HLu : Hid (∀ u, EvSl (f u) (.slice p3 L.length c3) L) := fun u => HEv.out.keep (hf u) (Nat.le_refl _)
  rcases h3 with ⟨c1, rfl⟩ | ⟨c1, c2, rfl⟩ | ⟨c1, c2, rfl⟩
  · have d1 : decide (nodes < 1) = true := by simpa using c1
    go_wp2_with fail
    go_loopw [6] (fun i wr => ∃ k : Nat, k ≤ L.length ∧ i = .int .i64 k ∧ ∃ u, wr = f u) (fun i _ => L.length - (intOf i).toNat)
    case atStart => exact ⟨0, Nat.zero_le _, rfl, _, rfl⟩
    case round =>
      obtain ⟨k, hk, rfl, u, rfl⟩ := hrel
      by_cases hlt : k < L.length
      · have hnm := HNM.out _ (List.getElem_mem hlt)
        obtain ⟨g, o, cap, hv, -, -, hgl, -⟩ := (HLu.out u).at k hlt
        simp only [Value.slice.injEq] at hv
        obtain ⟨hv, -⟩ := hv
        subst hv
        obtain ⟨⟨e, pe, ce⟩, hxL⟩ : ∃ x, L[k] = x := ⟨_, rfl⟩
        rw [hxL] at hnm
        simp only at hnm
        have hd1 : decide ((k : Int) < (L.length : Int)) = true := by simp; omega
        have hc0 : (f u).cell? ⟨g, o + k * 11, none⟩ = some (.int .i64 e.k) := (HLu.out u).cell hlt hxL 0 (by decide)
        have hc1 : (f u).cell? ⟨g, o + k * 11 + 1, none⟩ = some (.int .i64 e.n) := (HLu.out u).cell hlt hxL 1 (by decide)
        have hc2 : (f u).cell? ⟨g, o + k * 11 + 2, none⟩ = some (.int .i64 e.i) := (HLu.out u).cell hlt hxL 2 (by decide)
        have hc3 : (f u).cell? ⟨g, o + k * 11 + 3, none⟩ = some (.int .i64 e.w) := (HLu.out u).cell hlt hxL 3 (by decide)
        have hc4 : (f u).cell? ⟨g, o + k * 11 + 4, none⟩ = some (.string e.t) := (HLu.out u).cell hlt hxL 4 (by decide)
        have hc5 : (f u).cell? ⟨g, o + k * 11 + 5, none⟩ = some (.slice pe e.ks.length ce) := (HLu.out u).cell hlt hxL 5 (by decide)
        have hc6 : (f u).cell? ⟨g, o + k * 11 + 6, none⟩ = some (.int .u16 e.cv) := (HLu.out u).cell hlt hxL 6 (by decide)
        have hc7 : (f u).cell? ⟨g, o + k * 11 + 7, none⟩ = some (.int .u16 e.cx) := (HLu.out u).cell hlt hxL 7 (by decide)
        have hc8 : (f u).cell? ⟨g, o + k * 11 + 8, none⟩ = some (.int .u16 e.cl) := (HLu.out u).cell hlt hxL 8 (by decide)
        have hc9 : (f u).cell? ⟨g, o + k * 11 + 9, none⟩ = some (.int .i64 e.ce) := (HLu.out u).cell hlt hxL 9 (by decide)
        have hc10 : (f u).cell? ⟨g, o + k * 11 + 10, none⟩ = some (.int .i64 e.ck) := (HLu.out u).cell hlt hxL 10 (by decide)
        obtain ⟨net, top, lo, hi, lo1, lo2⟩ := hnm
        obtain ⟨K, hK⟩ : ∃ K, e.k = K := ⟨_, rfl⟩
        obtain ⟨M, hM⟩ : ∃ M, e.n = M := ⟨_, rfl⟩
        rw [hK] at hc0 net lo hi lo1 lo2
        rw [hM] at hc1 net top
        have HBn : Hid (∀ u', Below (f u).heap.size (f u) u' → ∃ v, u' = f v) := fun u' h => hg _ ((hf u).trans (h.mono (hf u).size))
        obtain ⟨un, hun⟩ := HBn.out _ ((Below.refl _ _).alloc (Nat.le_refl _) (.cells #[.int .i64 K, .int .i64 M, .int .i64 e.i, .int .i64 e.w, .string e.t, .slice pe e.ks.length ce, .int .u16 e.cv, .int .u16 e.cx, .int .u16 e.cl, .int .i64 e.ce, .int .i64 e.ck] 41))
        have HUN := Lib.hid hun
        clear hxL hK hM HBn hun
        have hKs : K = 1 ∨ K = 2 ∨ K = 3 ∨ K = 4 ∨ K = 5 ∨ K = 6 ∨ K = 7 ∨ K = 8 ∨ K = 9 ∨ K = 12 := by omega
        by_cases hM0 : M = 0
        · subst hM0
          have hK3 : K = 3 ∨ K = 4 ∨ K = 5 := by simpa using net
          clear hKs net lo1 lo2
          rcases hK3 with rfl | rfl | rfl
          all_goals
            go_wp2_with fail
            go_roundw
            case rel => exact ⟨k + 1, by omega, by go_num, _, HUN.out⟩
            case measure => simp [intOf]; omega
        · have hK3 : ¬ (K = 3 ∨ K = 4 ∨ K = 5) := by intro h; rw [decide_eq_true h] at net; simp at net; exact hM0 net
          have hm0 : (M == 0) = false := by simpa using hM0
          have htop : decide (1 < M) = false := by simp; omega
          have hKs' : K = 1 ∨ K = 2 ∨ K = 6 ∨ K = 7 ∨ K = 8 ∨ K = 9 ∨ K = 12 := by omega
          clear hKs net lo1 lo2 hK3 hM0
          rcases hKs' with rfl | rfl | rfl | rfl | rfl | rfl | rfl
          all_goals
            go_wp2_with fail
            go_roundw
            case rel => exact ⟨k + 1, by omega, by go_num, _, HUN.out⟩
            case measure => simp [intOf]; omega
      · have hll : decide ((L.length : Int) ≤ (xs.length : Int)) = true := by simp; omega
        have hll2 : decide (L.length ≤ xs.length) = true := by simp; omega
        go_wp2_with fail
        go_ret
        exact ⟨rfl, HBF.out _⟩
  · have d1 : decide (nodes < 1) = false := by simpa using c1
    have d2 : decide (9 < nodes) = true := by simpa using c2
    go_wp2_with fail
    go_loopw [6] (fun i wr => ∃ k : Nat, k ≤ L.length ∧ i = .int .i64 k ∧ ∃ u, wr = f u) (fun i _ => L.length - (intOf i).toNat)
    case atStart => exact ⟨0, Nat.zero_le _, rfl, _, rfl⟩
    case round =>
      obtain ⟨k, hk, rfl, u, rfl⟩ := hrel
      by_cases hlt : k < L.length
      · have hnm := HNM.out _ (List.getElem_mem hlt)
        obtain ⟨g, o, cap, hv, -, -, hgl, -⟩ := (HLu.out u).at k hlt
        simp only [Value.slice.injEq] at hv
        obtain ⟨hv, -⟩ := hv
        subst hv
        obtain ⟨⟨e, pe, ce⟩, hxL⟩ : ∃ x, L[k] = x := ⟨_, rfl⟩
        rw [hxL] at hnm
        simp only at hnm
        have hd1 : decide ((k : Int) < (L.length : Int)) = true := by simp; omega
        have hc0 : (f u).cell? ⟨g, o + k * 11, none⟩ = some (.int .i64 e.k) := (HLu.out u).cell hlt hxL 0 (by decide)
        have hc1 : (f u).cell? ⟨g, o + k * 11 + 1, none⟩ = some (.int .i64 e.n) := (HLu.out u).cell hlt hxL 1 (by decide)
        have hc2 : (f u).cell? ⟨g, o + k * 11 + 2, none⟩ = some (.int .i64 e.i) := (HLu.out u).cell hlt hxL 2 (by decide)
        have hc3 : (f u).cell? ⟨g, o + k * 11 + 3, none⟩ = some (.int .i64 e.w) := (HLu.out u).cell hlt hxL 3 (by decide)
        have hc4 : (f u).cell? ⟨g, o + k * 11 + 4, none⟩ = some (.string e.t) := (HLu.out u).cell hlt hxL 4 (by decide)
        have hc5 : (f u).cell? ⟨g, o + k * 11 + 5, none⟩ = some (.slice pe e.ks.length ce) := (HLu.out u).cell hlt hxL 5 (by decide)
        have hc6 : (f u).cell? ⟨g, o + k * 11 + 6, none⟩ = some (.int .u16 e.cv) := (HLu.out u).cell hlt hxL 6 (by decide)
        have hc7 : (f u).cell? ⟨g, o + k * 11 + 7, none⟩ = some (.int .u16 e.cx) := (HLu.out u).cell hlt hxL 7 (by decide)
        have hc8 : (f u).cell? ⟨g, o + k * 11 + 8, none⟩ = some (.int .u16 e.cl) := (HLu.out u).cell hlt hxL 8 (by decide)
        have hc9 : (f u).cell? ⟨g, o + k * 11 + 9, none⟩ = some (.int .i64 e.ce) := (HLu.out u).cell hlt hxL 9 (by decide)
        have hc10 : (f u).cell? ⟨g, o + k * 11 + 10, none⟩ = some (.int .i64 e.ck) := (HLu.out u).cell hlt hxL 10 (by decide)
        obtain ⟨net, top, lo, hi, lo1, lo2⟩ := hnm
        obtain ⟨K, hK⟩ : ∃ K, e.k = K := ⟨_, rfl⟩
        obtain ⟨M, hM⟩ : ∃ M, e.n = M := ⟨_, rfl⟩
        rw [hK] at hc0 net lo hi lo1 lo2
        rw [hM] at hc1 net top
        have HBn : Hid (∀ u', Below (f u).heap.size (f u) u' → ∃ v, u' = f v) := fun u' h => hg _ ((hf u).trans (h.mono (hf u).size))
        obtain ⟨un, hun⟩ := HBn.out _ ((Below.refl _ _).alloc (Nat.le_refl _) (.cells #[.int .i64 K, .int .i64 M, .int .i64 e.i, .int .i64 e.w, .string e.t, .slice pe e.ks.length ce, .int .u16 e.cv, .int .u16 e.cx, .int .u16 e.cl, .int .i64 e.ce, .int .i64 e.ck] 41))
        have HUN := Lib.hid hun
        clear hxL hK hM HBn hun
        have hKs : K = 1 ∨ K = 2 ∨ K = 3 ∨ K = 4 ∨ K = 5 ∨ K = 6 ∨ K = 7 ∨ K = 8 ∨ K = 9 ∨ K = 12 := by omega
        by_cases hM0 : M = 0
        · subst hM0
          have hK3 : K = 3 ∨ K = 4 ∨ K = 5 := by simpa using net
          clear hKs net lo1 lo2
          rcases hK3 with rfl | rfl | rfl
          all_goals
            go_wp2_with fail
            go_roundw
            case rel => exact ⟨k + 1, by omega, by go_num, _, HUN.out⟩
            case measure => simp [intOf]; omega
        · have hK3 : ¬ (K = 3 ∨ K = 4 ∨ K = 5) := by intro h; rw [decide_eq_true h] at net; simp at net; exact hM0 net
          have hm0 : (M == 0) = false := by simpa using hM0
          have htop : decide (1 < M) = false := by simp; omega
          have hKs' : K = 1 ∨ K = 2 ∨ K = 6 ∨ K = 7 ∨ K = 8 ∨ K = 9 ∨ K = 12 := by omega
          clear hKs net lo1 lo2 hK3 hM0
          rcases hKs' with rfl | rfl | rfl | rfl | rfl | rfl | rfl
          all_goals
            go_wp2_with fail
            go_roundw
            case rel => exact ⟨k + 1, by omega, by go_num, _, HUN.out⟩
            case measure => simp [intOf]; omega
      · have hll : decide ((L.length : Int) ≤ (xs.length : Int)) = true := by simp; omega
        have hll2 : decide (L.length ≤ xs.length) = true := by simp; omega
        go_wp2_with fail
        go_ret
        exact ⟨rfl, HBF.out _⟩
  · have d1 : decide (N < 1) = false := by simpa using c1
    have d2 : decide (9 < N) = false := by simpa using c2
    go_wp2_with fail
    go_loopw [6] (fun i wr => ∃ k : Nat, k ≤ L.length ∧ i = .int .i64 k ∧ ∃ u, wr = f u) (fun i _ => L.length - (intOf i).toNat)
    case atStart => exact ⟨0, Nat.zero_le _, rfl, _, rfl⟩
    case round =>
      obtain ⟨k, hk, rfl, u, rfl⟩ := hrel
      by_cases hlt : k < L.length
      · have hnm := HNM.out _ (List.getElem_mem hlt)
        obtain ⟨g, o, cap, hv, -, -, hgl, -⟩ := (HLu.out u).at k hlt
        simp only [Value.slice.injEq] at hv
        obtain ⟨hv, -⟩ := hv
        subst hv
        obtain ⟨⟨e, pe, ce⟩, hxL⟩ : ∃ x, L[k] = x := ⟨_, rfl⟩
        rw [hxL] at hnm
        simp only at hnm
        have hd1 : decide ((k : Int) < (L.length : Int)) = true := by simp; omega
        have hc0 : (f u).cell? ⟨g, o + k * 11, none⟩ = some (.int .i64 e.k) := (HLu.out u).cell hlt hxL 0 (by decide)
        have hc1 : (f u).cell? ⟨g, o + k * 11 + 1, none⟩ = some (.int .i64 e.n) := (HLu.out u).cell hlt hxL 1 (by decide)
        have hc2 : (f u).cell? ⟨g, o + k * 11 + 2, none⟩ = some (.int .i64 e.i) := (HLu.out u).cell hlt hxL 2 (by decide)
        have hc3 : (f u).cell? ⟨g, o + k * 11 + 3, none⟩ = some (.int .i64 e.w) := (HLu.out u).cell hlt hxL 3 (by decide)
        have hc4 : (f u).cell? ⟨g, o + k * 11 + 4, none⟩ = some (.string e.t) := (HLu.out u).cell hlt hxL 4 (by decide)
        have hc5 : (f u).cell? ⟨g, o + k * 11 + 5, none⟩ = some (.slice pe e.ks.length ce) := (HLu.out u).cell hlt hxL 5 (by decide)
        have hc6 : (f u).cell? ⟨g, o + k * 11 + 6, none⟩ = some (.int .u16 e.cv) := (HLu.out u).cell hlt hxL 6 (by decide)
        have hc7 : (f u).cell? ⟨g, o + k * 11 + 7, none⟩ = some (.int .u16 e.cx) := (HLu.out u).cell hlt hxL 7 (by decide)
        have hc8 : (f u).cell? ⟨g, o + k * 11 + 8, none⟩ = some (.int .u16 e.cl) := (HLu.out u).cell hlt hxL 8 (by decide)
        have hc9 : (f u).cell? ⟨g, o + k * 11 + 9, none⟩ = some (.int .i64 e.ce) := (HLu.out u).cell hlt hxL 9 (by decide)
        have hc10 : (f u).cell? ⟨g, o + k * 11 + 10, none⟩ = some (.int .i64 e.ck) := (HLu.out u).cell hlt hxL 10 (by decide)
        obtain ⟨net, top, lo, hi, lo1, lo2⟩ := hnm
        obtain ⟨K, hK⟩ : ∃ K, e.k = K := ⟨_, rfl⟩
        obtain ⟨M, hM⟩ : ∃ M, e.n = M := ⟨_, rfl⟩
        rw [hK] at hc0 net lo hi lo1 lo2
        rw [hM] at hc1 net top
        have HBn : Hid (∀ u', Below (f u).heap.size (f u) u' → ∃ v, u' = f v) := fun u' h => hg _ ((hf u).trans (h.mono (hf u).size))
        obtain ⟨un, hun⟩ := HBn.out _ ((Below.refl _ _).alloc (Nat.le_refl _) (.cells #[.int .i64 K, .int .i64 M, .int .i64 e.i, .int .i64 e.w, .string e.t, .slice pe e.ks.length ce, .int .u16 e.cv, .int .u16 e.cx, .int .u16 e.cl, .int .i64 e.ce, .int .i64 e.ck] 41))
        have HUN := Lib.hid hun
        clear hxL hK hM HBn hun
        have hKs : K = 1 ∨ K = 2 ∨ K = 3 ∨ K = 4 ∨ K = 5 ∨ K = 6 ∨ K = 7 ∨ K = 8 ∨ K = 9 ∨ K = 12 := by omega
        by_cases hM0 : M = 0
        · subst hM0
          have hK3 : K = 3 ∨ K = 4 ∨ K = 5 := by simpa using net
          clear hKs net lo1 lo2
          rcases hK3 with rfl | rfl | rfl
          all_goals
            go_wp2_with fail
            go_roundw
            case rel => exact ⟨k + 1, by omega, by go_num, _, HUN.out⟩
            case measure => simp [intOf]; omega
        · have hK3 : ¬ (K = 3 ∨ K = 4 ∨ K = 5) := by intro h; rw [decide_eq_true h] at net; simp at net; exact hM0 net
          have hm0 : (M == 0) = false := by simpa using hM0
          have htop : decide (N < M) = false := by simp; omega
          have hKs' : K = 1 ∨ K = 2 ∨ K = 6 ∨ K = 7 ∨ K = 8 ∨ K = 9 ∨ K = 12 := by omega
          clear hKs net lo1 lo2 hK3 hM0
          rcases hKs' with rfl | rfl | rfl | rfl | rfl | rfl | rfl
          all_goals
            go_wp2_with fail
            go_roundw
            case rel => exact ⟨k + 1, by omega, by go_num, _, HUN.out⟩
            case measure => simp [intOf]; omega
      · have hll : decide ((L.length : Int) ≤ (xs.length : Int)) = true := by simp; omega
        have hll2 : decide (L.length ≤ xs.length) = true := by simp; omega
        go_wp2_with fail
        go_ret
        exact ⟨rfl, HBF.out _⟩

set_option maxRecDepth 100000 in
theorem scnodes_lifted (os : Os) (started : os.Started) (H : Type) (enc : TypeId × Value → H) :
    ReturnsInHanded {} Try.checked os 6 .any (Rows.scriptNodesSpec.pre6 enc Try.prog Try.f6 Rows.scriptNodesRow.domain false) (Rows.scriptNodesSpec.post enc Try.prog Try.f6 false true false false) := by
  refine lift_law (C := Try.checked) (tb := 4) (by kernel_rfl) started (by kernel_rfl) Try.func6 (ChangeSpec.witness6 (enc := enc) (C := Try.checked) false ⟨#[], #[.slice none 0 0, .int .i64 0], []⟩ 8 (by kernel_rfl) (by kernel_rfl) (by kernel_rfl) (by kernel_rfl)) (by kernel_rfl) (by kernel_rfl) rfl Try.underlying4 rfl ?_ ?_
  · intro ds h
    match ds, h with
    | [_, _], _ => rfl
  · intro W base args ds ps hval0 hA0 hlt hsz
    have hval : ∀ (j : Nat) t v, Try.f6.params[j]? = some t → args[j]? = some v → Value.okWide Try.prog W .any base t v := hval0
    have hA : DataW.TrodAll enc Try.prog W 0 (fun _ => true) true Try.f6.params.toList args.toList ds ps := hA0
    rw [Try.params6] at hA hval
    obtain ⟨v0, v1, d0, d1, p0, p1, rfl, rfl, rfl, h0, h1⟩ := trodAll_two hA
    obtain ⟨xs, hs, hw⟩ := open_nums Try.underlying22 Try.underlying5 (by kernel_rfl) (hval 0 22 v0 rfl rfl) h0
    obtain ⟨nodes, rfl, rfl, rfl, wnodes⟩ := open_int Try.underlying3 (hval 1 3 v1 rfl rfl) h1
    exact scnodes_walk v0 nodes xs (fun x hm => wf_u8 (hw x hm)) W hs

theorem scnodes_holds : Rows.ScriptNodesSaid :=
  OpenClaim.holds_of_wide 6 Try.f6 rfl rfl rfl rfl rfl rfl rfl ⟨rfl, rfl, rfl, rfl, rfl⟩ rfl rfl rfl rfl rfl (by kernel_rfl) Try.func6 (by kernel_rfl)
    (of_decide_eq_true (by kernel_rfl)) (by unfold Func.isWrapper; first | (rw [if_pos (by decide +kernel)]; kernel_rfl) | (rw [if_neg (by decide +kernel)]; exact ⟨rfl, rfl⟩))
    (fun os started H enc _ => scnodes_lifted os started H enc)
#print axioms scnodes_holds

end Go.Proofs.Ytihkkoldjllifaa
