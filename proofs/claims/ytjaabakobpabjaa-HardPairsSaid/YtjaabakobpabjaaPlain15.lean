/- Hard: what the pairs' law asks of a core: no entry has a configuration but those of its kind. -/
import Derived.Test.YtjaabakobpabjaaRef13B
import Derived.Test.YtjaabakobpabjaaLogR
import Derived.Test.YtjaabakobpabjaaHardB
import Derived.Test.YtjaabakobpabjaaHardF
import Derived.Test.YtjaabakobpabjaaPlainRd
namespace Go.Proofs.Ytjaabakobpabjaa
open Go.ChangeShapes Go.WideShapes Go.ChangeAt Go.RowKit

set_option maxRecDepth 100000 in
set_option maxHeartbeats 8000000 in
theorem plain15_any (c : Co) (p : Option Addr) (k : Nat) (w : World) (hn : c.l.es.length ≤ 1000000) (hE : EnSl w (.slice p c.l.es.length k) c.l.es) :
    Calls Try.prog 24 #[.agg #[.int .i64 c.id, .int .i64 c.role, .int .i64 c.tm, .int .i64 c.vt, .int .i64 c.ld, .int .i64 c.wt, .int .i64 c.cm, .int .i64 c.sf, .int .i64 c.l.b, .int .i64 c.l.bt, .int .u16 c.l.j.ov, .int .u16 c.l.j.ox, .int .u16 c.l.j.ol, .int .i64 c.l.j.oe, .int .i64 c.l.j.ok, .int .u16 c.l.j.nv, .int .u16 c.l.j.nx, .int .u16 c.l.j.nl, .int .i64 c.l.j.ne, .int .i64 c.l.j.nk, .bool c.l.j.two, .slice p c.l.es.length k, .string c.sn, .int .u16 c.vs, .int .u16 c.hd, .int .i64 (c.nx 0), .int .i64 (c.nx 1), .int .i64 (c.nx 2), .int .i64 (c.nx 3), .int .i64 (c.nx 4), .int .i64 (c.nx 5), .int .i64 (c.nx 6), .int .i64 (c.nx 7), .int .i64 (c.nx 8), .int .i64 (c.nx 9), .int .i64 (c.mt 0), .int .i64 (c.mt 1), .int .i64 (c.mt 2), .int .i64 (c.mt 3), .int .i64 (c.mt 4), .int .i64 (c.mt 5), .int .i64 (c.mt 6), .int .i64 (c.mt 7), .int .i64 (c.mt 8), .int .i64 (c.mt 9)]] w fun r w' => (∃ b, r = .returned (.bool b) ∧ (b = true → ∀ e ∈ c.l.es, e.k ≠ 2 → e.j = jn0)) ∧ Below w.heap.size w w' := by
  have HE := Lib.hid hE
  clear hE
  go_enter Try.func24, Try.ntmps24
  obtain ⟨Q', hQ⟩ : ∃ Q', bodyPost Try.prog Try.f24 (fun r w' => (∃ b, r = .returned (.bool b) ∧ (b = true → ∀ e ∈ c.l.es, e.k ≠ 2 → e.j = jn0)) ∧ Below w.heap.size w w') = Q' := ⟨_, rfl⟩
  have HQF : Hid (∀ (a : Act) (w' : World), a.tmps.getD 2 undef = .bool false → a.defers = [] → Below w.heap.size w w' → Q' .ret a w') := fun a w' h6 hd hb => by
    rw [← hQ]; exact bodyPost_ret (v := .bool false) (by rw [results_tmp rfl, h6]) hd ⟨⟨false, rfl, fun h => absurd h (by decide)⟩, hb⟩
  have HQT : Hid (∀ (a : Act) (w' : World), a.tmps.getD 2 undef = .bool true → a.defers = [] → (∀ e ∈ c.l.es, e.k ≠ 2 → e.j = jn0) → Below w.heap.size w w' → Q' .ret a w') := fun a w' h6 hd hn hb => by
    rw [← hQ]; exact bodyPost_ret (v := .bool true) (by rw [results_tmp rfl, h6]) hd ⟨⟨true, rfl, fun _ => hn⟩, hb⟩
  rw [hQ]
  clear hQ
  go_upto_region 1 with fail
  have HA0 := Lib.hid (heap_last w (.cells #[.int .i64 c.id, .int .i64 c.role, .int .i64 c.tm, .int .i64 c.vt, .int .i64 c.ld, .int .i64 c.wt, .int .i64 c.cm, .int .i64 c.sf, .int .i64 c.l.b, .int .i64 c.l.bt, .int .u16 c.l.j.ov, .int .u16 c.l.j.ox, .int .u16 c.l.j.ol, .int .i64 c.l.j.oe, .int .i64 c.l.j.ok, .int .u16 c.l.j.nv, .int .u16 c.l.j.nx, .int .u16 c.l.j.nl, .int .i64 c.l.j.ne, .int .i64 c.l.j.nk, .bool c.l.j.two, .slice p c.l.es.length k, .string c.sn, .int .u16 c.vs, .int .u16 c.hd, .int .i64 (c.nx 0), .int .i64 (c.nx 1), .int .i64 (c.nx 2), .int .i64 (c.nx 3), .int .i64 (c.nx 4), .int .i64 (c.nx 5), .int .i64 (c.nx 6), .int .i64 (c.nx 7), .int .i64 (c.nx 8), .int .i64 (c.nx 9), .int .i64 (c.mt 0), .int .i64 (c.mt 1), .int .i64 (c.mt 2), .int .i64 (c.mt 3), .int .i64 (c.mt 4), .int .i64 (c.mt 5), .int .i64 (c.mt 6), .int .i64 (c.mt 7), .int .i64 (c.mt 8), .int .i64 (c.mt 9)] 48))
  have HB0 := Lib.hid ((Below.refl _ w).alloc (Nat.le_refl _) (.cells #[.int .i64 c.id, .int .i64 c.role, .int .i64 c.tm, .int .i64 c.vt, .int .i64 c.ld, .int .i64 c.wt, .int .i64 c.cm, .int .i64 c.sf, .int .i64 c.l.b, .int .i64 c.l.bt, .int .u16 c.l.j.ov, .int .u16 c.l.j.ox, .int .u16 c.l.j.ol, .int .i64 c.l.j.oe, .int .i64 c.l.j.ok, .int .u16 c.l.j.nv, .int .u16 c.l.j.nx, .int .u16 c.l.j.nl, .int .i64 c.l.j.ne, .int .i64 c.l.j.nk, .bool c.l.j.two, .slice p c.l.es.length k, .string c.sn, .int .u16 c.vs, .int .u16 c.hd, .int .i64 (c.nx 0), .int .i64 (c.nx 1), .int .i64 (c.nx 2), .int .i64 (c.nx 3), .int .i64 (c.nx 4), .int .i64 (c.nx 5), .int .i64 (c.nx 6), .int .i64 (c.nx 7), .int .i64 (c.nx 8), .int .i64 (c.nx 9), .int .i64 (c.mt 0), .int .i64 (c.mt 1), .int .i64 (c.mt 2), .int .i64 (c.mt 3), .int .i64 (c.mt 4), .int .i64 (c.mt 5), .int .i64 (c.mt 6), .int .i64 (c.mt 7), .int .i64 (c.mt 8), .int .i64 (c.mt 9)] 48))
  obtain ⟨W, hW⟩ : ∃ W, w.alloc (.cells #[.int .i64 c.id, .int .i64 c.role, .int .i64 c.tm, .int .i64 c.vt, .int .i64 c.ld, .int .i64 c.wt, .int .i64 c.cm, .int .i64 c.sf, .int .i64 c.l.b, .int .i64 c.l.bt, .int .u16 c.l.j.ov, .int .u16 c.l.j.ox, .int .u16 c.l.j.ol, .int .i64 c.l.j.oe, .int .i64 c.l.j.ok, .int .u16 c.l.j.nv, .int .u16 c.l.j.nx, .int .u16 c.l.j.nl, .int .i64 c.l.j.ne, .int .i64 c.l.j.nk, .bool c.l.j.two, .slice p c.l.es.length k, .string c.sn, .int .u16 c.vs, .int .u16 c.hd, .int .i64 (c.nx 0), .int .i64 (c.nx 1), .int .i64 (c.nx 2), .int .i64 (c.nx 3), .int .i64 (c.nx 4), .int .i64 (c.nx 5), .int .i64 (c.nx 6), .int .i64 (c.nx 7), .int .i64 (c.nx 8), .int .i64 (c.nx 9), .int .i64 (c.mt 0), .int .i64 (c.mt 1), .int .i64 (c.mt 2), .int .i64 (c.mt 3), .int .i64 (c.mt 4), .int .i64 (c.mt 5), .int .i64 (c.mt 6), .int .i64 (c.mt 7), .int .i64 (c.mt 8), .int .i64 (c.mt 9)] 48) = W := ⟨_, rfl⟩
  rw [hW] at HA0 HB0 ⊢
  clear hW
  go_wp2_with fail
  go_loopw [3] (fun i wr => ∃ n : Nat, n ≤ c.l.es.length ∧ i = .int .i64 n ∧ Hid (∀ m, m < n → ∀ h : m < c.l.es.length, (c.l.es[m]).k ≠ 2 → (c.l.es[m]).j = jn0) ∧ Hid (Below W.heap.size W wr)) (fun i _ => c.l.es.length - (intOf i).toNat)
  case atStart => exact ⟨0, Nat.zero_le _, rfl, fun m hm => absurd hm (Nat.not_lt_zero m), Below.refl _ _⟩
  case round =>
    obtain ⟨n, hnl, rfl, HK, HB⟩ := hrel
    obtain ⟨wk, rfl⟩ : ∃ wk : World, wk = wr := ⟨_, rfl⟩
    have kA := block_cells (below_block HB.out (block_lt HA0.out) HA0.out)
    have HBW := Lib.hid (HB0.out.trans (HB.out.mono HB0.out.size))
    by_cases hlt : n < c.l.es.length
    · obtain ⟨g, o, cap, hv, hgl, hc⟩ := (HE.out.keep HBW.out (Nat.le_refl _)).at n hlt
      simp only [Value.slice.injEq] at hv
      obtain ⟨rfl, -⟩ := hv
      obtain ⟨e, he⟩ : ∃ e, c.l.es[n] = e := ⟨_, rfl⟩
      rw [he] at hc
      have HEE := Lib.hid he
      have hq0 : wk.cell? ⟨g, o + n * 14, none⟩ = some (.int .i64 e.t) := hc 0 (by decide)
      have hq1 : wk.cell? ⟨g, o + n * 14 + 1, none⟩ = some (.int .i64 e.k) := hc 1 (by decide)
      have hq2 : wk.cell? ⟨g, o + n * 14 + 2, none⟩ = some (.string e.d) := hc 2 (by decide)
      have hq3 : wk.cell? ⟨g, o + n * 14 + 3, none⟩ = some (.int .u16 e.j.ov) := hc 3 (by decide)
      have hq4 : wk.cell? ⟨g, o + n * 14 + 4, none⟩ = some (.int .u16 e.j.ox) := hc 4 (by decide)
      have hq5 : wk.cell? ⟨g, o + n * 14 + 5, none⟩ = some (.int .u16 e.j.ol) := hc 5 (by decide)
      have hq6 : wk.cell? ⟨g, o + n * 14 + 6, none⟩ = some (.int .i64 e.j.oe) := hc 6 (by decide)
      have hq7 : wk.cell? ⟨g, o + n * 14 + 7, none⟩ = some (.int .i64 e.j.ok) := hc 7 (by decide)
      have hq8 : wk.cell? ⟨g, o + n * 14 + 8, none⟩ = some (.int .u16 e.j.nv) := hc 8 (by decide)
      have hq9 : wk.cell? ⟨g, o + n * 14 + 9, none⟩ = some (.int .u16 e.j.nx) := hc 9 (by decide)
      have hq10 : wk.cell? ⟨g, o + n * 14 + 10, none⟩ = some (.int .u16 e.j.nl) := hc 10 (by decide)
      have hq11 : wk.cell? ⟨g, o + n * 14 + 11, none⟩ = some (.int .i64 e.j.ne) := hc 11 (by decide)
      have hq12 : wk.cell? ⟨g, o + n * 14 + 12, none⟩ = some (.int .i64 e.j.nk) := hc 12 (by decide)
      have hq13 : wk.cell? ⟨g, o + n * 14 + 13, none⟩ = some (.bool e.j.two) := hc 13 (by decide)
      have hd1 : decide ((n : Int) < (c.l.es.length : Int)) = true := by simp; omega
      have hkm : (n : Int) < (c.l.es.length : Int) := by omega
      have hba : Below W.heap.size W (wk.alloc (.cells #[.int .i64 e.t, .int .i64 e.k, .string e.d, .int .u16 e.j.ov, .int .u16 e.j.ox, .int .u16 e.j.ol, .int .i64 e.j.oe, .int .i64 e.j.ok, .int .u16 e.j.nv, .int .u16 e.j.nx, .int .u16 e.j.nl, .int .i64 e.j.ne, .int .i64 e.j.nk, .bool e.j.two] 85)) := HB.out.alloc HB.out.size _
      have HBA := Lib.hid hba
      have HBX := Lib.hid (HB0.out.trans (hba.mono HB0.out.size))
      clear hc he hba
      by_cases hx : e.k = 2
      · have hd2 : (e.k != 2) = false := by simp [hx]
        have HK2 : Hid (∀ m, m < n + 1 → ∀ h : m < c.l.es.length, (c.l.es[m]).k ≠ 2 → (c.l.es[m]).j = jn0) := fun m hm h hk => by
          by_cases e' : m = n
          · subst e'; rw [HEE.out] at hk; exact absurd hx hk
          · exact HK.out m (by omega) h hk
        clear hx
        go_wp2_with fail
        go_roundw
        case rel => exact ⟨n + 1, by omega, by go_num, HK2, HBA⟩
        case measure => simp [intOf]; omega
      · have hd2 : (e.k != 2) = true := by simp [hx]
        clear hx
        by_cases hj : e.j = jn0
        · have hq : ∀ w, (binOp .neq 42 (.agg #[.int .u16 e.j.ov, .int .u16 e.j.ox, .int .u16 e.j.ol, .int .i64 e.j.oe, .int .i64 e.j.ok, .int .u16 e.j.nv, .int .u16 e.j.nx, .int .u16 e.j.nl, .int .i64 e.j.ne, .int .i64 e.j.nk, .bool e.j.two]) (.agg #[.int .u16 0, .int .u16 0, .int .u16 0, .int .i64 0, .int .i64 0, .int .u16 0, .int .u16 0, .int .u16 0, .int .i64 0, .int .i64 0, .bool false])).run Try.prog w = .ok (.bool false) w := fun w => by rw [hj]; exact joX_eq jn0 w
          have HK2 : Hid (∀ m, m < n + 1 → ∀ h : m < c.l.es.length, (c.l.es[m]).k ≠ 2 → (c.l.es[m]).j = jn0) := fun m hm h hk => by
            by_cases e' : m = n
            · subst e'; rw [HEE.out]; exact hj
            · exact HK.out m (by omega) h hk
          clear hj
          go_wp2_with fail
          go_roundw
          case rel => exact ⟨n + 1, by omega, by go_num, HK2, HBA⟩
          case measure => simp [intOf]; omega
        · have hq : ∀ w, (binOp .neq 42 (.agg #[.int .u16 e.j.ov, .int .u16 e.j.ox, .int .u16 e.j.ol, .int .i64 e.j.oe, .int .i64 e.j.ok, .int .u16 e.j.nv, .int .u16 e.j.nx, .int .u16 e.j.nl, .int .i64 e.j.ne, .int .i64 e.j.nk, .bool e.j.two]) (.agg #[.int .u16 0, .int .u16 0, .int .u16 0, .int .i64 0, .int .i64 0, .int .u16 0, .int .u16 0, .int .u16 0, .int .i64 0, .int .i64 0, .bool false])).run Try.prog w = .ok (.bool true) w := fun w => joX_neq hj w
          clear hj
          go_wp2_with fail
          exact HQF.out _ _ rfl rfl HBX.out
    · obtain rfl : n = c.l.es.length := by omega
      have hd1 : decide ((c.l.es.length : Int) < (c.l.es.length : Int)) = false := by simp
      have HY := Lib.hid (show ∀ e ∈ c.l.es, e.k ≠ 2 → e.j = jn0 from fun e he => by
        obtain ⟨m, hm, rfl⟩ := List.mem_iff_getElem.1 he
        exact HK.out m hm hm)
      clear HK
      go_wp2_with fail
      exact HQT.out _ _ rfl rfl HY.out HBW.out
/-- A core that may be, is light and plain can be written and read. -/
theorem mayE_bound : ∀ (L : List Ent) (t : Int) (_ : 0 ≤ t) (_ : mayE L t = true), ∀ e ∈ L, CnV e.t
  | [], _, _, _, e, he => absurd he (by simp)
  | x :: r, t, ht, h, e, he => by
    unfold mayE at h
    simp only [Bool.and_eq_true, decide_eq_true_eq] at h
    obtain ⟨h1, h2, h3⟩ := h
    rcases List.mem_cons.1 he with rfl | he
    · exact ⟨by omega, by omega⟩
    · exact mayE_bound r x.t (by omega) h3 e he
theorem nowV_of {c : Co} (V : CoV c) (M : CoMay c) (L : lightC c = true) (hp : ∀ e ∈ c.l.es, e.k ≠ 2 → e.j = jn0) : c.l.es.length ≤ 60 ∧ LgFit c.l ∧ NowV c ∧ CoF c := by
  have hm := logM_may M.l
  have hl : c.l.es.length ≤ 60 ∧ (∀ e ∈ c.l.es, e.d.size ≤ 200) ∧ c.sn.size ≤ 300 := by
    unfold lightC lightB smallB at L
    simp only [Bool.and_eq_true, decide_eq_true_eq, List.all_eq_true] at L
    exact ⟨L.1.1, L.1.2.2.1, L.2⟩
  obtain ⟨h1, h2, h3⟩ := hl
  have hf := mayL_fitM hm (by omega)
  unfold mayL at hm
  simp only [Bool.and_eq_true, decide_eq_true_eq] at hm
  obtain ⟨b0, b1, t0, t1, hE⟩ := hm
  have hmx : 0 ≤ max1 c.l.bt := by unfold max1; split <;> omega
  have hes := mayE_bound _ _ hmx hE
  refine ⟨h1, hf, ⟨⟨M.tm0, by have := M.tm1; omega⟩, ⟨M.vt0, by have := M.vt1; omega⟩, ⟨b0, by omega⟩, ⟨t0, by omega⟩, V.l.j, by unfold TxV; omega, by omega, fun e he => ⟨hes e he, (V.l.es e he).k, by have := h2 e he; unfold TxV; omega, (V.l.es e he).j, hp e he⟩⟩, ?_⟩
  exact ⟨V.tm, V.vt, V.l.bt, V.l.j, by omega, fun e he => ⟨(V.l.es e he).t, (V.l.es e he).k, (V.l.es e he).j, by have := h2 e he; omega⟩⟩
theorem encJoP_oct (j : JoX) : Oct (encJo j) := by
  unfold encJo
  exact octs_app (octs_flat fun c => octs_app (octs_app (octs_flat fun x => bePre_bd _ _ _) (encN_octW _)) (encN_octW _)) (encF_oct _)
theorem recB_octP {c : Int} (hc : 0 ≤ c ∧ c ≤ 255) (l : List Int) : Oct (recB c l) := fun x hx => by
  unfold recB at hx
  rcases List.mem_cons.1 hx with rfl | hx
  · exact hc
  · obtain ⟨v, -, hx⟩ := List.mem_flatMap.1 hx
    exact encN_octW v x hx
theorem octP_app {a b : List Int} (h1 : Oct a) (h2 : Oct b) : Oct (a ++ b) := fun x hx => by
  rcases List.mem_append.1 hx with hx | hx
  · exact h1 x hx
  · exact h2 x hx
theorem encT_lenP {s : ByteArray} (h : s.size ≤ 1000000) : (encT s).length ≤ 1000010 := by
  unfold encT
  rw [List.length_append, txW_len]
  have : (varN s.size).length ≤ 10 := (varN_len 10 s.size (by have : 128 ^ 10 = 1180591620717411303424 := (by decide); omega) (by omega)).2
  omega
theorem entB_octP {r i : Int} {e : Ent} (hr : In64 r) (hi : In64 i) (h : In64 e.t ∧ In64 e.k ∧ JoF (joX e.j) ∧ e.d.size ≤ 1000000) : Oct (entB r i e) ∧ (entB r i e).length ≤ 2000000 := by
  obtain ⟨h1, h2, h3, h4⟩ := h
  have hl := recB_len (c := 69) (l := [r, i, e.t, e.k]) (fun x hx => by
    simp only [List.mem_cons, List.not_mem_nil, or_false] at hx
    rcases hx with rfl | rfl | rfl | rfl <;> assumption)
  have ht := encT_lenP h4
  have hj := encJo_leH h3
  unfold entB
  refine ⟨octP_app (octP_app (recB_octP (by omega) _) (encT_oct _)) ?_, ?_⟩
  · split
    · exact encJoP_oct _
    · exact fun x hx => absurd hx (by simp)
  · simp only [List.length_append, List.length_cons, List.length_nil] at hl ⊢
    split
    · omega
    · simp only [List.length_nil]; omega
theorem entsB_mem : ∀ (r : Int) (es : List Ent) (i : Int) {x : List Int} (_ : x ∈ entsB r i es), ∃ (j : Int) (e : Ent), e ∈ es ∧ i ≤ j ∧ j < i + es.length ∧ x = entB r j e
  | _, [], _, _, h => by simp [entsB] at h
  | r, e :: es, i, x, h => by
    unfold entsB at h
    rcases List.mem_cons.1 h with rfl | h
    · exact ⟨i, e, by simp, Int.le_refl _, by simp only [List.length_cons]; omega, rfl⟩
    · obtain ⟨j, e', h1, h2, h3, h4⟩ := entsB_mem r es (i + 1) h
      exact ⟨j, e', List.mem_cons_of_mem _ h1, by omega, by simp only [List.length_cons]; omega, h4⟩
theorem diffB_octP {r : Int} {o n : Co} (hr : In64 r) (V : NowV n) (F : CoF n) : ∀ x ∈ diffB r o n, Oct x ∧ x.length ≤ 2000000 := fun x hx => by
  have hb := V.b; have ht := V.top
  unfold CnV at hb
  have hp := preN_le (wasL o n) n.l.b n.l.es
  unfold diffB at hx
  rcases List.mem_append.1 hx with hx | hx
  · rcases List.mem_append.1 hx with hx | hx
    · rcases List.mem_append.1 hx with hx | hx
      · split at hx
        · rw [List.mem_singleton] at hx
          subst hx
          have hl := recB_len (c := 72) (l := [r, n.tm, n.vt]) (fun x hx => by
            simp only [List.mem_cons, List.not_mem_nil, or_false] at hx
            rcases hx with rfl | rfl | rfl
            · exact hr
            · exact F.tm
            · exact F.vt)
          simp only [List.length_cons, List.length_nil] at hl
          exact ⟨recB_octP (by omega) _, by omega⟩
        · simp at hx
      · split at hx
        · rw [List.mem_singleton] at hx
          subst hx
          have hl := recB_len (c := 83) (l := [r, n.l.b, n.l.bt]) (fun x hx => by
            simp only [List.mem_cons, List.not_mem_nil, or_false] at hx
            rcases hx with rfl | rfl | rfl
            · exact hr
            · exact CnV.i64 V.b
            · exact F.bt)
          have ht := encT_lenP F.sn
          have hj := encJo_leH F.j
          refine ⟨octP_app (octP_app (recB_octP (by omega) _) (encJoP_oct _)) (encT_oct _), ?_⟩
          simp only [List.length_append, List.length_cons, List.length_nil] at hl ⊢
          omega
        · simp at hx
    · split at hx
      · rw [List.mem_singleton] at hx
        subst hx
        have hl := recB_len (c := 88) (l := [r, n.l.b + preN (wasL o n) n.l.b n.l.es]) (fun x hx => by
          simp only [List.mem_cons, List.not_mem_nil, or_false] at hx
          rcases hx with rfl | rfl
          · exact hr
          · unfold In64; omega)
        simp only [List.length_cons, List.length_nil] at hl
        exact ⟨recB_octP (by omega) _, by omega⟩
      · simp at hx
  · obtain ⟨j, e, h1, h2, h3, rfl⟩ := entsB_mem _ _ _ hx
    rw [List.length_drop] at h3
    exact entB_octP hr (by unfold In64; omega) (F.es e (List.mem_of_mem_drop h1))
theorem pairs_oct {a b : Co} {p : Option Addr} {k : Nat} (ha : NowV a) (hb : NowV b) (fa : CoF a) (fb : CoF b) : ∀ x ∈ wholeB 1 [⟨0, a, p, k⟩] ++ diffB 0 a b, Oct x ∧ (x.length : Int) ≤ 140737488300000 := fun x hx => by
  have h0 : In64 (0 : Int) := by unfold In64; decide
  have key : Oct x ∧ x.length ≤ 2000000 := by
    rcases List.mem_append.1 hx with hx | hx
    · unfold wholeB at hx
      rcases List.mem_cons.1 hx with rfl | hx
      · have hl := recB_len (c := 76) (l := [1]) (fun x hx => by rw [List.mem_singleton] at hx; rw [hx]; unfold In64; omega)
        simp only [List.length_cons, List.length_nil] at hl
        exact ⟨recB_octP (by omega) _, by omega⟩
      · simp only [List.flatMap_cons, List.flatMap_nil, List.append_nil] at hx
        exact diffB_octP h0 ha fa x hx
    · exact diffB_octP h0 hb fb x hx
  exact ⟨key.1, by have := key.2; omega⟩
end Go.Proofs.Ytjaabakobpabjaa
