import Derived.Test.YtbnndbdnejfehaaGreatDoorActS
import Derived.Test.YtbnndbdnejfehaaGreatDoorLogR
import Derived.Test.YtbnndbdnejfehaaGreatDoorActN0
import Derived.Test.YtbnndbdnejfehaaGreatDoorCoreMay
import Derived.Test.YtbnndbdnejfehaaGreatDoorHardA
import Derived.Test.YtbnndbdnejfehaaGreatDoorLogU
import Derived.Test.YtbnndbdnejfehaaGreatDoorLogP
import Derived.Test.YtbnndbdnejfehaaGreatDoorLogV
import Derived.Test.YtbnndbdnejfehaaGreatDoorLogG
import Derived.Test.YtbnndbdnejfehaaGreatDoorActAd
/- The reference of core: two equal lists of messages are the same (SameMsgs). -/
namespace Go.Proofs.YtbnndbdnejfehaaGreatDoor
open Go.ChangeShapes Go.WideShapes Go.ChangeAt Go.RowKit

theorem MsAt.form {B : Nat} {w : World} {v : Value} {l : List MsX} (h : MsAt B w v l) {i : Nat} (hi : i < l.length) : ∃ g c, v = .slice (some ⟨g, 0, none⟩) l.length c ∧ ∀ w' : World, Below w.heap.size w w' → w'.rangeAt g (i * 22) (l[i]).v := by
  rcases h.own.2 with ⟨-, h0⟩ | ⟨g, cap, cur, hv, hb, hg, -, -, hc, ht⟩
  · have : l.length = 0 := by simpa using h0
    omega
  · refine ⟨g, cap, hv, fun w' hb => range_of (n := 22) rfl (fun j hj => ?_)⟩
    have hg' := below_block hb (block_lt hg) hg
    rw [block_cells hg', ← msRow_get hi hj, ← ht, List.getElem?_take, if_pos (by
      have : i * 22 + 22 ≤ l.length * 22 := by have := Nat.mul_le_mul_right 22 (show i + 1 ≤ l.length from hi); omega
      omega)]
    simp
theorem own_maxM {w : World} {base : Nat} {e : TypeId} {size n : Nat} {v : Value} {xs : List Value} (h : w.ownsRow base e size v n xs) : n ≤ 9223372036854775807 := by
  rcases h.2 with ⟨-, h0⟩ | ⟨g, cap, cur, hv, -, -, hn, hm, -⟩
  · omega
  · unfold maxLen at hm; omega
theorem MsAt.len_le {B : Nat} {w : World} {v : Value} {l : List MsX} (h : MsAt B w v l) : l.length ≤ 9223372036854775807 := own_maxM h.own
theorem msgs_eq {l l2 : List MsX} (h : l.map MsX.m = l2.map MsX.m) : l2.length = l.length ∧ ∀ i (h1 : i < l.length) (h2 : i < l2.length), (l2[i]).m = (l[i]).m := by
  have hn : l2.length = l.length := by have := congrArg List.length h; simpa using this.symm
  refine ⟨hn, fun i h1 h2 => ?_⟩
  have : (l.map MsX.m)[i]? = (l2.map MsX.m)[i]? := by rw [h]
  rw [List.getElem?_map, List.getElem?_map, List.getElem?_eq_getElem h1, List.getElem?_eq_getElem h2] at this
  simpa using this.symm
set_option maxRecDepth 100000 in
set_option maxHeartbeats 16000000 in
theorem smsgs_any (B1 B2 : Nat) (v1 v2 : Value) (l l2 : List MsX) (w : World) (h1 : MsAt B1 w v1 l) (h2 : MsAt B2 w v2 l2) (he : l.map MsX.m = l2.map MsX.m) (hes : ∀ x ∈ l, x.m.es.length ≤ 1000000) :
    Calls Tryz.prog 15 #[v1, v2] w fun r w' => r = .returned (.bool true) ∧ Below w.heap.size w w' := by
  obtain ⟨hlen, hms⟩ := msgs_eq he
  obtain ⟨p1, c1, e1⟩ := own_formH h1.own
  obtain ⟨p2, c2, e2⟩ := own_formH h2.own
  rw [hlen] at e2
  subst e1; subst e2
  have hlm := h1.len_le
  have H1 := Lib.hid h1; have H2 := Lib.hid h2; have HMS := Lib.hid hms; have HLL := Lib.hid hlen; have HES := Lib.hid hes
  clear h1 h2 hms hlen hes he
  have hu : undef = Value.tuple #[] := rfl
  go_enter Tryz.func15, Tryz.ntmps15
  obtain ⟨Q', hQ⟩ : ∃ Q', bodyPost Tryz.prog Tryz.f15 (fun e w' => e = .returned (.bool true) ∧ Below w.heap.size w w') = Q' := ⟨_, rfl⟩
  have HQ : Hid (∀ (a : Act) (w' : World), a.tmps.getD 4 undef = .bool true → a.defers = [] → Below w.heap.size w w' → Q' .ret a w') := fun a w' h6 hd hb => by
    rw [← hQ]; exact bodyPost_ret (v := .bool true) (by rw [results_tmp rfl, h6]) hd ⟨rfl, hb⟩
  rw [hQ]
  clear hQ
  go_wp2_with fail
  (try rw [← hu])
  clear hu
  go_loopw [5] (fun i wr => ∃ k : Nat, k ≤ l.length ∧ i = .int .i64 k ∧ Below w.heap.size w wr) (fun i _ => l.length - (intOf i).toNat)
  case atStart => exact ⟨0, by omega, rfl, Below.refl _ _⟩
  case round =>
    obtain ⟨k, hk, rfl, hbz⟩ := hrel
    obtain ⟨wz, rfl⟩ : ∃ wz : World, wz = wr := ⟨_, rfl⟩
    by_cases hlt : k < l.length
    · have hd : decide ((k : Int) < (l.length : Int)) = true := by simp; omega
      have hlt2 : k < l2.length := by rw [HLL.out]; exact hlt
      obtain ⟨ga, ca, ea, hra⟩ := H1.out.form hlt
      obtain ⟨gb, cb, eb, hrb⟩ := H2.out.form hlt2
      simp only [Value.slice.injEq] at ea eb
      obtain ⟨rfl, -, rfl⟩ := ea
      obtain ⟨rfl, -, rfl⟩ := eb
      obtain ⟨⟨m, q1, k1⟩, hx⟩ : ∃ x, l[k] = x := ⟨_, rfl⟩
      obtain ⟨⟨m2, q2, k2⟩, hy⟩ : ∃ x, l2[k] = x := ⟨_, rfl⟩
      have hmm : m2 = m := by have := HMS.out k hlt hlt2; rw [hx, hy] at this; exact this
      subst hmm
      have HRA := Lib.hid (show ∀ w', Below w.heap.size w w' → w'.rangeAt ga (k * 22) (msC m2 q1 k1) from fun w' h => by have := hra w' h; rw [hx] at this; exact this)
      have HRB := Lib.hid (show ∀ w', Below w.heap.size w w' → w'.rangeAt gb (k * 22) (msC m2 q2 k2) from fun w' h => by have := hrb w' h; rw [hy] at this; exact this)
      have HAL := Lib.hid (show ∀ w', Below w.heap.size w w' → Calls Tryz.prog 58 #[.slice q1 m2.es.length k1, .slice q2 m2.es.length k2] w' fun r w3 => r = .returned (.bool true) ∧ Below w'.heap.size w' w3 from fun w' h => by
        have h3 := alike_any m2.es m2.es q1 q2 k1 k2 w' (by have := HES.out _ (List.getElem_mem hlt); rw [hx] at this; exact this) (by have := HES.out _ (List.getElem_mem hlt); rw [hx] at this; exact this) (by have := (H1.out.keep h).en _ (List.getElem_mem hlt); rw [hx] at this; exact EnSl.of_own this) (by have := (H2.out.keep h).en _ (List.getElem_mem hlt2); rw [hy] at this; exact EnSl.of_own this)
        rw [decide_eq_true rfl] at h3; exact h3)
      have hkm : (k : Int) < (l.length : Int) := by omega
      have hk0 : 0 ≤ (k : Int) := by omega
      clear hx hy hra hrb
      go_upto_region 6 with fail
      have h0 : Below w.heap.size w wz.drew := hbz.drew
      refine wp_region_noPanic ?_
      refine wp_region_held_drew (S := fun w' => Below w.heap.size w w') (by kernel_rfl) h0 (fun hHeld => ?_)
      obtain ⟨wd, ewd⟩ : ∃ x, wz.drew = x := ⟨_, rfl⟩
      rw [ewd] at h0 hHeld ⊢
      clear ewd
      refine tkL 0 rfl hHeld ?_
      try simp only [zA, zC, Act.put, zD, zE, zF]
      refine tkL 1 rfl hHeld ?_
      try simp only [zA, zB, zC, Act.put, zD, zE, zF]
      refine tkL 2 rfl hHeld ?_
      try simp only [zA, zB, zC, Act.put, zD, zE, zF]
      refine tkL 4 rfl hHeld ?_
      try simp only [zA, zB, zC, Act.put, zD, zE, zF]
      refine tkL 5 rfl hHeld ?_
      try simp only [zA, zB, zC, Act.put, zD, zE, zF]
      refine tkL 6 rfl hHeld ?_
      try simp only [zA, zB, zC, Act.put, zD, zE, zF]
      refine tkH (i := 3) (v := .agg (msC m2 q1 k1).toArray) rfl (yieldsIf_load_mid (by rfl) _ _ rfl ga (k * 22) rfl (msC m2 q1 k1) _ HRA.out Tryz.underlying39 rfl (by kernel_rfl)) hHeld ?_
      try simp only [zA, zB, zC, Act.put, zD, zE, zF]
      refine tkH (i := 7) (v := .agg (msC m2 q2 k2).toArray) rfl (yieldsIf_load_mid (by rfl) _ _ rfl gb (k * 22) rfl (msC m2 q2 k2) _ HRB.out Tryz.underlying39 rfl (by kernel_rfl)) hHeld ?_
      try simp only [zA, zB, zC, Act.put, zD, zE, zF]
      have s8 : Below w.heap.size w (wd.alloc (.cells #[.int .i64 0, .int .i64 0, .int .i64 0, .int .i64 0, .int .i64 0, .int .i64 0, .int .i64 0, .int .i64 0, .bool false, .slice none 0 0, .string ⟨#[]⟩, .int .u16 0, .int .u16 0, .int .u16 0, .int .i64 0, .int .i64 0, .int .u16 0, .int .u16 0, .int .u16 0, .int .i64 0, .int .i64 0, .bool false] 39)) := h0.alloc h0.size _
      have s9 : Below w.heap.size w ((wd.alloc (.cells #[.int .i64 0, .int .i64 0, .int .i64 0, .int .i64 0, .int .i64 0, .int .i64 0, .int .i64 0, .int .i64 0, .bool false, .slice none 0 0, .string ⟨#[]⟩, .int .u16 0, .int .u16 0, .int .u16 0, .int .i64 0, .int .i64 0, .int .u16 0, .int .u16 0, .int .u16 0, .int .i64 0, .int .i64 0, .bool false] 39)).alloc (.cells #[.int .i64 0, .int .i64 0, .int .i64 0, .int .i64 0, .int .i64 0, .int .i64 0, .int .i64 0, .int .i64 0, .bool false, .slice none 0 0, .string ⟨#[]⟩, .int .u16 0, .int .u16 0, .int .u16 0, .int .i64 0, .int .i64 0, .int .u16 0, .int .u16 0, .int .u16 0, .int .i64 0, .int .i64 0, .bool false] 39)) := s8.alloc s8.size _
      have hP : ((wd.alloc (.cells #[.int .i64 0, .int .i64 0, .int .i64 0, .int .i64 0, .int .i64 0, .int .i64 0, .int .i64 0, .int .i64 0, .bool false, .slice none 0 0, .string ⟨#[]⟩, .int .u16 0, .int .u16 0, .int .u16 0, .int .i64 0, .int .i64 0, .int .u16 0, .int .u16 0, .int .u16 0, .int .i64 0, .int .i64 0, .bool false] 39)).alloc (.cells #[.int .i64 0, .int .i64 0, .int .i64 0, .int .i64 0, .int .i64 0, .int .i64 0, .int .i64 0, .int .i64 0, .bool false, .slice none 0 0, .string ⟨#[]⟩, .int .u16 0, .int .u16 0, .int .u16 0, .int .i64 0, .int .i64 0, .int .u16 0, .int .u16 0, .int .u16 0, .int .i64 0, .int .i64 0, .bool false] 39)).heap[wd.heap.size]? = some (.cells #[.int .i64 0, .int .i64 0, .int .i64 0, .int .i64 0, .int .i64 0, .int .i64 0, .int .i64 0, .int .i64 0, .bool false, .slice none 0 0, .string ⟨#[]⟩, .int .u16 0, .int .u16 0, .int .u16 0, .int .i64 0, .int .i64 0, .int .u16 0, .int .u16 0, .int .u16 0, .int .i64 0, .int .i64 0, .bool false] 39 (0, 0)) := heap_prev _ (heap_last wd _)
      have hR : ((wd.alloc (.cells #[.int .i64 0, .int .i64 0, .int .i64 0, .int .i64 0, .int .i64 0, .int .i64 0, .int .i64 0, .int .i64 0, .bool false, .slice none 0 0, .string ⟨#[]⟩, .int .u16 0, .int .u16 0, .int .u16 0, .int .i64 0, .int .i64 0, .int .u16 0, .int .u16 0, .int .u16 0, .int .i64 0, .int .i64 0, .bool false] 39)).alloc (.cells #[.int .i64 0, .int .i64 0, .int .i64 0, .int .i64 0, .int .i64 0, .int .i64 0, .int .i64 0, .int .i64 0, .bool false, .slice none 0 0, .string ⟨#[]⟩, .int .u16 0, .int .u16 0, .int .u16 0, .int .i64 0, .int .i64 0, .int .u16 0, .int .u16 0, .int .u16 0, .int .i64 0, .int .i64 0, .bool false] 39)).heap[wd.heap.size + 1]? = some (.cells #[.int .i64 0, .int .i64 0, .int .i64 0, .int .i64 0, .int .i64 0, .int .i64 0, .int .i64 0, .int .i64 0, .bool false, .slice none 0 0, .string ⟨#[]⟩, .int .u16 0, .int .u16 0, .int .u16 0, .int .i64 0, .int .i64 0, .int .u16 0, .int .u16 0, .int .u16 0, .int .i64 0, .int .i64 0, .bool false] 39 (0, 0)) := heap_atL (by simp)
      have hgP := h0.size
      have hgR : w.heap.size ≤ wd.heap.size + 1 := by omega
      have hPR : wd.heap.size ≠ wd.heap.size + 1 := by omega
      have hRP : wd.heap.size + 1 ≠ wd.heap.size := by omega
      obtain ⟨P, eP⟩ : ∃ z, wd.heap.size = z := ⟨_, rfl⟩
      obtain ⟨R, eR⟩ : ∃ z, P + 1 = z := ⟨_, rfl⟩
      rw [eP] at hP hR hgP hgR hPR hRP
      rw [eR] at hR hgR hPR hRP
      refine wpAnyH_ready (rs := [8, 9]) (by kernel_rfl) (by simp) ?_; refine AllReadyH.cons rfl (fun K hK => ?_) (AllReadyH.cons rfl (fun K hK => ?_) AllReadyH.nil)
      · try simp only [zA, zB, zC]
        go_simp
        refine hK.out _ _ s8 (fun _ => ?_)
        clear hK K hHeld
        try simp only [zA, zB, zC, Act.put, zD, zE, zF]
        have hHeld := s8
        refine wpAnyH_ready (rs := [9]) (by kernel_rfl) (by simp) ?_; refine AllReadyH.cons rfl (fun K hK => ?_) AllReadyH.nil
        try simp only [zA, zB, zC]
        go_simp
        refine hK.out _ _ s9 (fun _ => ?_)
        clear hK K hHeld
        try simp only [zA, zB, zC, Act.put, zD, zE, zF]
        have hHeld := s9
        obtain ⟨W2, hW2⟩ : ∃ z : World, (wd.alloc (.cells #[.int .i64 0, .int .i64 0, .int .i64 0, .int .i64 0, .int .i64 0, .int .i64 0, .int .i64 0, .int .i64 0, .bool false, .slice none 0 0, .string ⟨#[]⟩, .int .u16 0, .int .u16 0, .int .u16 0, .int .i64 0, .int .i64 0, .int .u16 0, .int .u16 0, .int .u16 0, .int .i64 0, .int .i64 0, .bool false] 39)).alloc (.cells #[.int .i64 0, .int .i64 0, .int .i64 0, .int .i64 0, .int .i64 0, .int .i64 0, .int .i64 0, .int .i64 0, .bool false, .slice none 0 0, .string ⟨#[]⟩, .int .u16 0, .int .u16 0, .int .u16 0, .int .i64 0, .int .i64 0, .int .u16 0, .int .u16 0, .int .u16 0, .int .i64 0, .int .i64 0, .bool false] 39) = z := ⟨_, rfl⟩
        rw [hW2] at s9 hP hR
        rw [hW2]
        (try rw [eP]); (try rw [eR])
        obtain ⟨X, eX⟩ : ∃ z, P = z := ⟨_, rfl⟩
        obtain ⟨Y, eY⟩ : ∃ z, R = z := ⟨_, rfl⟩
        have hXb := hP; have hYb := hR; have hXY := hPR; have hgX := hgP; have hgY := hgR
        rw [eX] at hXb hgX hXY; rw [eY] at hYb hgY hXY
        (try rw [eX]); (try rw [eY])
        clear hP hR hgP hgR hPR hRP s8 hW2
        have HTX := Lib.hid (there_of_block (o := 0) (n := 22) hXb (Nat.le_of_ble_eq_true rfl))
        have hg1 := (block_setCells (msC m2 q1 k1) 0 hXb).2
        have hX1 : (W2.setCells X 0 (msC m2 q1 k1)).heap[X]? = some (.cells (msC m2 q1 k1).toArray 39 (0, 0)) := setCells_full (n := 22) (vs := (msC m2 q1 k1).toArray) hXb rfl rfl
        have hY1 : (W2.setCells X 0 (msC m2 q1 k1)).heap[Y]? = some (.cells #[.int .i64 0, .int .i64 0, .int .i64 0, .int .i64 0, .int .i64 0, .int .i64 0, .int .i64 0, .int .i64 0, .bool false, .slice none 0 0, .string ⟨#[]⟩, .int .u16 0, .int .u16 0, .int .u16 0, .int .i64 0, .int .i64 0, .int .u16 0, .int .u16 0, .int .u16 0, .int .i64 0, .int .i64 0, .bool false] 39 (0, 0)) := (hg1.block Y (block_lt hYb) (fun e => hXY (by simpa using e.symm))).trans hYb
        have s10 : Below w.heap.size w (W2.setCells X 0 (msC m2 q1 k1)) := s9.grown hg1 s9.size (fun b e => by simp only [Option.some.injEq] at e; omega)
        have HTY := Lib.hid (there_of_block (o := 0) (n := 22) hY1 (Nat.le_of_ble_eq_true rfl))
        have hg2 := (block_setCells (msC m2 q2 k2) 0 hY1).2
        have hY2 : ((W2.setCells X 0 (msC m2 q1 k1)).setCells Y 0 (msC m2 q2 k2)).heap[Y]? = some (.cells (msC m2 q2 k2).toArray 39 (0, 0)) := setCells_full (n := 22) (vs := (msC m2 q2 k2).toArray) hY1 rfl rfl
        have hX2 : ((W2.setCells X 0 (msC m2 q1 k1)).setCells Y 0 (msC m2 q2 k2)).heap[X]? = some (.cells (msC m2 q1 k1).toArray 39 (0, 0)) := (hg2.block X (block_lt hX1) (fun e => hXY (by simpa using e))).trans hX1
        have s11 : Below w.heap.size w ((W2.setCells X 0 (msC m2 q1 k1)).setCells Y 0 (msC m2 q2 k2)) := s10.grown hg2 s10.size (fun b e => by simp only [Option.some.injEq] at e; omega)
        refine wpAnyH_ready (rs := [10]) (by kernel_rfl) (by simp) ?_; refine AllReadyH.cons rfl (fun K hK => ?_) AllReadyH.nil
        rw [if_pos (by rfl)]
        refine wp_store_mid _ _ _ (by rfl) X 0 (msC m2 q1 k1).toArray (by rfl) (by rfl) HTX.out (by kernel_rfl) (one_all rfl) ?_
        refine hK.out _ _ s10 (fun _ => ?_)
        clear hK K hHeld
        try simp only [zA, zB, zC, Act.put]
        have hHeld := s10
        obtain ⟨W3, hW3⟩ : ∃ z : World, W2.setCells X 0 (msC m2 q1 k1) = z := ⟨_, rfl⟩
        rw [hW3] at hHeld s10 HTY hY2 hX2 s11 hX1 hY1 hg2 ⊢
        refine wpAnyH_ready (rs := [11]) (by kernel_rfl) (by simp) ?_; refine AllReadyH.cons rfl (fun K hK => ?_) AllReadyH.nil
        rw [if_pos (by rfl)]
        refine wp_store_mid _ _ _ (by rfl) Y 0 (msC m2 q2 k2).toArray (by rfl) (by rfl) HTY.out (by kernel_rfl) (one_all rfl) ?_
        refine hK.out _ _ s11 (fun _ => ?_)
        clear hK K hHeld
        try simp only [zA, zB, zC, Act.put]
        have hHeld := s11
        refine wpAnyH_done (by kernel_rfl) ?_ _
        refine NoPanic.normal ?_
        obtain ⟨W4, hW4⟩ : ∃ z : World, W3.setCells Y 0 (msC m2 q2 k2) = z := ⟨_, rfl⟩
        rw [hW4] at hX2 hY2 s11
        rw [hW4]
        have kX : ∀ j, W4.cell? ⟨X, j, none⟩ = #[.int .i64 m2.k, .int .i64 m2.fr, .int .i64 m2.dst, .int .i64 m2.tm, .int .i64 m2.ix, .int .i64 m2.lt, .int .i64 m2.cm, .int .i64 m2.sf, .bool m2.yes, .slice q1 m2.es.length k1, .string m2.sn, .int .u16 m2.cf.ov, .int .u16 m2.cf.ox, .int .u16 m2.cf.ol, .int .i64 m2.cf.oe, .int .i64 m2.cf.ok, .int .u16 m2.cf.nv, .int .u16 m2.cf.nx, .int .u16 m2.cf.nl, .int .i64 m2.cf.ne, .int .i64 m2.cf.nk, .bool m2.cf.two][j]? := block_cells hX2
        have kY : ∀ j, W4.cell? ⟨Y, j, none⟩ = #[.int .i64 m2.k, .int .i64 m2.fr, .int .i64 m2.dst, .int .i64 m2.tm, .int .i64 m2.ix, .int .i64 m2.lt, .int .i64 m2.cm, .int .i64 m2.sf, .bool m2.yes, .slice q2 m2.es.length k2, .string m2.sn, .int .u16 m2.cf.ov, .int .u16 m2.cf.ox, .int .u16 m2.cf.ol, .int .i64 m2.cf.oe, .int .i64 m2.cf.ok, .int .u16 m2.cf.nv, .int .u16 m2.cf.nx, .int .u16 m2.cf.nl, .int .i64 m2.cf.ne, .int .i64 m2.cf.nk, .bool m2.cf.two][j]? := block_cells hY2
        have HC := Lib.hid (HAL.out W4 s11)
        have HS := Lib.hid s11
        have hq : ∀ w, (binOp .neq 27 (.agg #[.int .u16 m2.cf.ov, .int .u16 m2.cf.ox, .int .u16 m2.cf.ol, .int .i64 m2.cf.oe, .int .i64 m2.cf.ok, .int .u16 m2.cf.nv, .int .u16 m2.cf.nx, .int .u16 m2.cf.nl, .int .i64 m2.cf.ne, .int .i64 m2.cf.nk, .bool m2.cf.two]) (.agg #[.int .u16 m2.cf.ov, .int .u16 m2.cf.ox, .int .u16 m2.cf.ol, .int .i64 m2.cf.oe, .int .i64 m2.cf.ok, .int .u16 m2.cf.nv, .int .u16 m2.cf.nx, .int .u16 m2.cf.nl, .int .i64 m2.cf.ne, .int .i64 m2.cf.nk, .bool m2.cf.two])).run Tryz.prog w = .ok (.bool false) w := fun w => by rw [run_neq_jn, decide_eq_true rfl]; rfl
        clear hW4 hW3 hX2 hY2 s11 hXb hYb hg1 hX1 hY1 s10 hg2 s9 hHeld h0 HTX HTY HRA HRB HAL hbz
        go_wp2_with fail
        refine HC.out.mono ?_; rintro r w9 ⟨rfl, b9⟩
        have HZ := Lib.hid (HS.out.trans (b9.mono HS.out.size))
        clear b9 HC kX kY
        go_wp2_with fail
        go_roundw
        case rel => exact ⟨k + 1, by omega, by go_num, HZ.out⟩
        case measure => simp [intOf]; omega
      · try simp only [zA, zB, zC]
        go_simp
        refine hK.out _ _ s8 (fun _ => ?_)
        clear hK K hHeld
        try simp only [zA, zB, zC, Act.put, zD, zE, zF]
        have hHeld := s8
        refine wpAnyH_ready (rs := [8]) (by kernel_rfl) (by simp) ?_; refine AllReadyH.cons rfl (fun K hK => ?_) AllReadyH.nil
        try simp only [zA, zB, zC]
        go_simp
        refine hK.out _ _ s9 (fun _ => ?_)
        clear hK K hHeld
        try simp only [zA, zB, zC, Act.put, zD, zE, zF]
        have hHeld := s9
        obtain ⟨W2, hW2⟩ : ∃ z : World, (wd.alloc (.cells #[.int .i64 0, .int .i64 0, .int .i64 0, .int .i64 0, .int .i64 0, .int .i64 0, .int .i64 0, .int .i64 0, .bool false, .slice none 0 0, .string ⟨#[]⟩, .int .u16 0, .int .u16 0, .int .u16 0, .int .i64 0, .int .i64 0, .int .u16 0, .int .u16 0, .int .u16 0, .int .i64 0, .int .i64 0, .bool false] 39)).alloc (.cells #[.int .i64 0, .int .i64 0, .int .i64 0, .int .i64 0, .int .i64 0, .int .i64 0, .int .i64 0, .int .i64 0, .bool false, .slice none 0 0, .string ⟨#[]⟩, .int .u16 0, .int .u16 0, .int .u16 0, .int .i64 0, .int .i64 0, .int .u16 0, .int .u16 0, .int .u16 0, .int .i64 0, .int .i64 0, .bool false] 39) = z := ⟨_, rfl⟩
        rw [hW2] at s9 hP hR
        rw [hW2]
        (try rw [eP]); (try rw [eR])
        obtain ⟨X, eX⟩ : ∃ z, R = z := ⟨_, rfl⟩
        obtain ⟨Y, eY⟩ : ∃ z, P = z := ⟨_, rfl⟩
        have hXb := hR; have hYb := hP; have hXY := hRP; have hgX := hgR; have hgY := hgP
        rw [eX] at hXb hgX hXY; rw [eY] at hYb hgY hXY
        (try rw [eX]); (try rw [eY])
        clear hP hR hgP hgR hPR hRP s8 hW2
        have HTX := Lib.hid (there_of_block (o := 0) (n := 22) hXb (Nat.le_of_ble_eq_true rfl))
        have hg1 := (block_setCells (msC m2 q1 k1) 0 hXb).2
        have hX1 : (W2.setCells X 0 (msC m2 q1 k1)).heap[X]? = some (.cells (msC m2 q1 k1).toArray 39 (0, 0)) := setCells_full (n := 22) (vs := (msC m2 q1 k1).toArray) hXb rfl rfl
        have hY1 : (W2.setCells X 0 (msC m2 q1 k1)).heap[Y]? = some (.cells #[.int .i64 0, .int .i64 0, .int .i64 0, .int .i64 0, .int .i64 0, .int .i64 0, .int .i64 0, .int .i64 0, .bool false, .slice none 0 0, .string ⟨#[]⟩, .int .u16 0, .int .u16 0, .int .u16 0, .int .i64 0, .int .i64 0, .int .u16 0, .int .u16 0, .int .u16 0, .int .i64 0, .int .i64 0, .bool false] 39 (0, 0)) := (hg1.block Y (block_lt hYb) (fun e => hXY (by simpa using e.symm))).trans hYb
        have s10 : Below w.heap.size w (W2.setCells X 0 (msC m2 q1 k1)) := s9.grown hg1 s9.size (fun b e => by simp only [Option.some.injEq] at e; omega)
        have HTY := Lib.hid (there_of_block (o := 0) (n := 22) hY1 (Nat.le_of_ble_eq_true rfl))
        have hg2 := (block_setCells (msC m2 q2 k2) 0 hY1).2
        have hY2 : ((W2.setCells X 0 (msC m2 q1 k1)).setCells Y 0 (msC m2 q2 k2)).heap[Y]? = some (.cells (msC m2 q2 k2).toArray 39 (0, 0)) := setCells_full (n := 22) (vs := (msC m2 q2 k2).toArray) hY1 rfl rfl
        have hX2 : ((W2.setCells X 0 (msC m2 q1 k1)).setCells Y 0 (msC m2 q2 k2)).heap[X]? = some (.cells (msC m2 q1 k1).toArray 39 (0, 0)) := (hg2.block X (block_lt hX1) (fun e => hXY (by simpa using e))).trans hX1
        have s11 : Below w.heap.size w ((W2.setCells X 0 (msC m2 q1 k1)).setCells Y 0 (msC m2 q2 k2)) := s10.grown hg2 s10.size (fun b e => by simp only [Option.some.injEq] at e; omega)
        refine wpAnyH_ready (rs := [10]) (by kernel_rfl) (by simp) ?_; refine AllReadyH.cons rfl (fun K hK => ?_) AllReadyH.nil
        rw [if_pos (by rfl)]
        refine wp_store_mid _ _ _ (by rfl) X 0 (msC m2 q1 k1).toArray (by rfl) (by rfl) HTX.out (by kernel_rfl) (one_all rfl) ?_
        refine hK.out _ _ s10 (fun _ => ?_)
        clear hK K hHeld
        try simp only [zA, zB, zC, Act.put]
        have hHeld := s10
        obtain ⟨W3, hW3⟩ : ∃ z : World, W2.setCells X 0 (msC m2 q1 k1) = z := ⟨_, rfl⟩
        rw [hW3] at hHeld s10 HTY hY2 hX2 s11 hX1 hY1 hg2 ⊢
        refine wpAnyH_ready (rs := [11]) (by kernel_rfl) (by simp) ?_; refine AllReadyH.cons rfl (fun K hK => ?_) AllReadyH.nil
        rw [if_pos (by rfl)]
        refine wp_store_mid _ _ _ (by rfl) Y 0 (msC m2 q2 k2).toArray (by rfl) (by rfl) HTY.out (by kernel_rfl) (one_all rfl) ?_
        refine hK.out _ _ s11 (fun _ => ?_)
        clear hK K hHeld
        try simp only [zA, zB, zC, Act.put]
        have hHeld := s11
        refine wpAnyH_done (by kernel_rfl) ?_ _
        refine NoPanic.normal ?_
        obtain ⟨W4, hW4⟩ : ∃ z : World, W3.setCells Y 0 (msC m2 q2 k2) = z := ⟨_, rfl⟩
        rw [hW4] at hX2 hY2 s11
        rw [hW4]
        have kX : ∀ j, W4.cell? ⟨X, j, none⟩ = #[.int .i64 m2.k, .int .i64 m2.fr, .int .i64 m2.dst, .int .i64 m2.tm, .int .i64 m2.ix, .int .i64 m2.lt, .int .i64 m2.cm, .int .i64 m2.sf, .bool m2.yes, .slice q1 m2.es.length k1, .string m2.sn, .int .u16 m2.cf.ov, .int .u16 m2.cf.ox, .int .u16 m2.cf.ol, .int .i64 m2.cf.oe, .int .i64 m2.cf.ok, .int .u16 m2.cf.nv, .int .u16 m2.cf.nx, .int .u16 m2.cf.nl, .int .i64 m2.cf.ne, .int .i64 m2.cf.nk, .bool m2.cf.two][j]? := block_cells hX2
        have kY : ∀ j, W4.cell? ⟨Y, j, none⟩ = #[.int .i64 m2.k, .int .i64 m2.fr, .int .i64 m2.dst, .int .i64 m2.tm, .int .i64 m2.ix, .int .i64 m2.lt, .int .i64 m2.cm, .int .i64 m2.sf, .bool m2.yes, .slice q2 m2.es.length k2, .string m2.sn, .int .u16 m2.cf.ov, .int .u16 m2.cf.ox, .int .u16 m2.cf.ol, .int .i64 m2.cf.oe, .int .i64 m2.cf.ok, .int .u16 m2.cf.nv, .int .u16 m2.cf.nx, .int .u16 m2.cf.nl, .int .i64 m2.cf.ne, .int .i64 m2.cf.nk, .bool m2.cf.two][j]? := block_cells hY2
        have HC := Lib.hid (HAL.out W4 s11)
        have HS := Lib.hid s11
        have hq : ∀ w, (binOp .neq 27 (.agg #[.int .u16 m2.cf.ov, .int .u16 m2.cf.ox, .int .u16 m2.cf.ol, .int .i64 m2.cf.oe, .int .i64 m2.cf.ok, .int .u16 m2.cf.nv, .int .u16 m2.cf.nx, .int .u16 m2.cf.nl, .int .i64 m2.cf.ne, .int .i64 m2.cf.nk, .bool m2.cf.two]) (.agg #[.int .u16 m2.cf.ov, .int .u16 m2.cf.ox, .int .u16 m2.cf.ol, .int .i64 m2.cf.oe, .int .i64 m2.cf.ok, .int .u16 m2.cf.nv, .int .u16 m2.cf.nx, .int .u16 m2.cf.nl, .int .i64 m2.cf.ne, .int .i64 m2.cf.nk, .bool m2.cf.two])).run Tryz.prog w = .ok (.bool false) w := fun w => by rw [run_neq_jn, decide_eq_true rfl]; rfl
        clear hW4 hW3 hX2 hY2 s11 hXb hYb hg1 hX1 hY1 s10 hg2 s9 hHeld h0 HTX HTY HRA HRB HAL hbz
        go_wp2_with fail
        refine HC.out.mono ?_; rintro r w9 ⟨rfl, b9⟩
        have HZ := Lib.hid (HS.out.trans (b9.mono HS.out.size))
        clear b9 HC kX kY
        go_wp2_with fail
        go_roundw
        case rel => exact ⟨k + 1, by omega, by go_num, HZ.out⟩
        case measure => simp [intOf]; omega
    · obtain rfl : k = l.length := by omega
      have hd : decide ((l.length : Int) < (l.length : Int)) = false := by simp
      have HEND := Lib.hid hbz
      clear hbz
      go_wp2_with fail
      exact HQ.out _ _ rfl rfl HEND.out
end Go.Proofs.YtbnndbdnejfehaaGreatDoor
/- A number's place: one and the same at each call. -/
namespace Go.Proofs.YtbnndbdnejfehaaGreatDoor
open Go.ChangeShapes Go.WideShapes Go.ChangeAt Go.RowKit

set_option maxHeartbeats 1000000 in
theorem place13 (k n : Int) (hk : In64 k) (hn : 1 ≤ n) (hm : n ≤ 140737488300000) :
    ∃ r : Nat, (r : Int) < n ∧ ∀ w, Calls Tryz.prog 18 #[.int .i64 k, .int .i64 n] w fun e w' => e = .returned (.int .i64 r) ∧ w = w' := by
  obtain ⟨k0, k1⟩ := hk
  have h1 := Int.tmod_lt_of_pos k (show 0 < n by omega)
  have h2 : -n < Int.tmod k n := by
    rcases Int.le_total 0 k with h | h
    · have := Int.tmod_nonneg n h; omega
    · have h3 := Int.tmod_lt_of_pos (-k) (show 0 < n by omega)
      rw [Int.neg_tmod] at h3; omega
  have hd0 : decide (n < 1) = false := by simp; omega
  have hn0 : n ≠ 0 := by omega
  have hw : wrap64 (Int.tmod k n + n) = Int.tmod k n + n := by unfold wrap64; omega
  by_cases hneg : Int.tmod k n < 0
  · obtain ⟨r, e⟩ : ∃ r : Nat, (r : Int) = Int.tmod k n + n := ⟨(Int.tmod k n + n).toNat, Int.toNat_of_nonneg (by omega)⟩
    refine ⟨r, by omega, fun w => ?_⟩
    have HE := Lib.hid e; have HW := Lib.hid hw
    have hdn : decide (Int.tmod k n < 0) = true := by simp; omega
    clear e h1 h2
    go_enter Tryz.func18, Tryz.ntmps18
    go_wp2_with fail
    go_ret
    refine ⟨?_, rfl⟩
    rw [HE.out]; first | rfl | simp [HW.out]
  · obtain ⟨r, e⟩ : ∃ r : Nat, (r : Int) = Int.tmod k n := ⟨(Int.tmod k n).toNat, Int.toNat_of_nonneg (by omega)⟩
    refine ⟨r, by omega, fun w => ?_⟩
    have HE := Lib.hid e
    have hdn : decide (Int.tmod k n < 0) = false := by simp; omega
    clear e h1 h2
    go_enter Tryz.func18, Tryz.ntmps18
    go_wp2_with fail
    go_ret
    refine ⟨?_, rfl⟩
    rw [HE.out]; rfl
end Go.Proofs.YtbnndbdnejfehaaGreatDoor
/- Hard: what a record says to a core: letters H and X, and none. -/
namespace Go.Proofs.YtbnndbdnejfehaaGreatDoor
open Go.ChangeShapes Go.WideShapes Go.ChangeAt Go.RowKit

/-- Two cells of a core are stored. -/
theorem CsAt.put2 {base : Nat} {w : World} {g cap : Nat} {l : List CoX} (h : CsAt base w (.slice (some ⟨g, 0, none⟩) l.length cap) l) {n : Nat} (hn : n < l.length) (i j : Nat) (hi : i < 45) (hj : j < 45) (y z : CoX) (u v : Value) (hy : y.v = l[n].v.set i u) (hz : z.v = y.v.set j v) (ey : CoOwn base w y) (ez : CoOwn base (w.setCell ⟨g, n * 45 + i, none⟩ u) z) :
    CsAt base ((w.setCell ⟨g, n * 45 + i, none⟩ u).setCell ⟨g, n * 45 + j, none⟩ v) (.slice (some ⟨g, 0, none⟩) (l.set n z).length cap) (l.set n z) ∧ Below base w ((w.setCell ⟨g, n * 45 + i, none⟩ u).setCell ⟨g, n * 45 + j, none⟩ v) := by
  obtain ⟨h1, b1⟩ := h.put hn i hi y u hy ey
  have hn2 : n < (l.set n y).length := by simpa using hn
  obtain ⟨h2, b2⟩ := h1.put hn2 j hj z v (by rw [hz]; simp) ez
  rw [List.set_set] at h2
  exact ⟨h2, b1.trans (b2.mono (Nat.le_refl _))⟩
end Go.Proofs.YtbnndbdnejfehaaGreatDoor
/- Hard: what a record says to a core: letter S. -/
namespace Go.Proofs.YtbnndbdnejfehaaGreatDoor
open Go.ChangeShapes Go.WideShapes Go.ChangeAt Go.RowKit

end Go.Proofs.YtbnndbdnejfehaaGreatDoor
/- Hard: what a record says to a core: letter E. -/
namespace Go.Proofs.YtbnndbdnejfehaaGreatDoor
open Go.ChangeShapes Go.WideShapes Go.ChangeAt Go.RowKit

/-- In the midst of an entry's record: the cores, the entry's block. -/
structure TrE (B G cap X : Nat) (l : List CoX) (ev : Array Value) (w0 w : World) : Prop where
  b : Below B w0 w
  l : CsAt B w (.slice (some ⟨G, 0, none⟩) l.length cap) l
  x : w.heap[X]? = some (.cells ev 47 (0, 0))
theorem TrE.keep {B G cap X : Nat} {l : List CoX} {ev : Array Value} {w0 w w' : World} (h : TrE B G cap X l ev w0 w) (hb : Below w.heap.size w w') : TrE B G cap X l ev w0 w' :=
  ⟨h.b.trans (hb.mono (Nat.le_of_lt (Nat.lt_of_le_of_lt h.l.lt.1 h.l.lt.2))), h.l.keep hb, below_block hb (block_lt h.x) h.x⟩
def SE (G n X : Nat) (b : Int) (ev : Array Value) (w : World) : Prop := w.cell? ⟨G, n * 45 + 8, none⟩ = some (.int .i64 b) ∧ ∀ j, w.cell? ⟨X, j, none⟩ = ev[j]?
theorem TrE.s {B G cap X n : Nat} {l : List CoX} {ev : Array Value} {w0 w : World} {x : CoX} (h : TrE B G cap X l ev w0 w) (hn : n < l.length) (hx : l[n] = x) : SE G n X x.c.l.b ev w :=
  ⟨by rw [h.l.cell hn 8 (by decide), hx]; rfl, block_cells h.x⟩
theorem TrE.sp {B G cap X n : Nat} {l : List CoX} {ev : Array Value} {w0 w : World} {x : CoX} (h : TrE B G cap X l ev w0 w) (hn : n < l.length) (hx : l[n] = x) (u : Value) : SE G n X x.c.l.b ev (w.setCell ⟨G, n * 45 + 21, none⟩ u) := by
  have hX : X ≠ G := fun e => by
    obtain ⟨cur, hq⟩ := h.l.block
    have := h.x
    rw [e, hq] at this
    simp only [Option.some.injEq, Obj.cells.injEq] at this
    exact absurd this.2.1 (by decide)
  refine ⟨?_, ?_⟩
  · rw [World.cell?_setCell_other _ _ _ _ (by intro e; simp at e)]; exact (h.s hn hx).1
  · exact block_cells ((Below.heap_setCell _ _ _ _ (by show X ≠ G; exact hX)).trans h.x)
structure TrO (B X : Nat) (l : List CoX) (w : World) (v : Value) (L : List Ent) : Prop where
  own : w.ownsRow B 47 14 v L.length (entRow L)
  gt : ∀ b, v.ownBlock = some b → X < b
  ap : ∀ y ∈ l, (Value.slice y.p y.c.l.es.length y.k).ownBlock = none ∨ (Value.slice y.p y.c.l.es.length y.k).ownBlock ≠ v.ownBlock
theorem TrO.keep {B X : Nat} {l : List CoX} {w w' : World} {v : Value} {L : List Ent} (h : TrO B X l w v L) (hb : Below w.heap.size w w') : TrO B X l w' v L := ⟨own_keptC h.own hb, h.gt, h.ap⟩
theorem TrE.new {B G cap X : Nat} {l : List CoX} {ev : Array Value} {w0 w w' : World} {v : Value} {L : List Ent} (h : TrE B G cap X l ev w0 w) (ho : w'.ownsRow w.heap.size 47 14 v L.length (entRow L)) (_hb : Below w.heap.size w w') : TrO B X l w' v L :=
  ⟨ho.mono (Nat.le_of_lt (Nat.lt_of_le_of_lt h.l.lt.1 h.l.lt.2)), fun b hbb => Nat.lt_of_lt_of_le (block_lt h.x) (ho.lt b hbb).1, fun y hy => by
    cases e : (Value.slice y.p y.c.l.es.length y.k).ownBlock with
    | none => exact .inl rfl
    | some b => exact .inr fun h2 => by have := ((h.l.en y hy).lt b e).2; have := (ho.lt b h2.symm).1; omega⟩
end Go.Proofs.YtbnndbdnejfehaaGreatDoor
/- Hard: what a record says to a core: letter E, with a joint. -/
namespace Go.Proofs.YtbnndbdnejfehaaGreatDoor
open Go.ChangeShapes Go.WideShapes Go.ChangeAt Go.RowKit

end Go.Proofs.YtbnndbdnejfehaaGreatDoor
/- Hard: what a record says to a core; a new core; lists of joints and of records. -/
namespace Go.Proofs.YtbnndbdnejfehaaGreatDoor
open Go.ChangeShapes Go.WideShapes Go.ChangeAt Go.RowKit

set_option maxRecDepth 100000 in
set_option maxHeartbeats 4000000 in
theorem hcnew_any (id : Int) (j : Jn) (w : World) :
    Calls Tryz.prog 29 #[.int .i64 id, .agg #[.int .u16 j.ov, .int .u16 j.ox, .int .u16 j.ol, .int .i64 j.oe, .int .i64 j.ok, .int .u16 j.nv, .int .u16 j.nx, .int .u16 j.nl, .int .i64 j.ne, .int .i64 j.nk, .bool j.two]] w fun e w' => e = .returned (.agg (coL (newCo id j) none 0).toArray) ∧ Below w.heap.size w w' := by
  obtain ⟨W, hW⟩ : ∃ z : World, w.alloc (.cells #[.int .u16 j.ov, .int .u16 j.ox, .int .u16 j.ol, .int .i64 j.oe, .int .i64 j.ok, .int .u16 j.nv, .int .u16 j.nx, .int .u16 j.nl, .int .i64 j.ne, .int .i64 j.nk, .bool j.two] 27) = z := ⟨_, rfl⟩
  have hb : Below w.heap.size w W := by rw [← hW]; exact (Below.refl _ _).alloc (Nat.le_refl _) _
  have hq : W.heap[w.heap.size]? = some (.cells #[.int .u16 j.ov, .int .u16 j.ox, .int .u16 j.ol, .int .i64 j.oe, .int .i64 j.ok, .int .u16 j.nv, .int .u16 j.nx, .int .u16 j.nl, .int .i64 j.ne, .int .i64 j.nk, .bool j.two] 27 (0, 0)) := by rw [← hW]; exact heap_last w _
  have hz : W.heap.size = w.heap.size + 1 := by rw [← hW]; simp
  have HB := Lib.hid hb; have HW := Lib.hid hW; have HZ := Lib.hid hz; have HQ := Lib.hid hq
  clear hb hW hz hq
  go_enter Tryz.func29, Tryz.ntmps29
  go_upto_region 1 with fail
  rw [HW.out, ← HZ.out]
  have hq2 := heap_prev (.cells #[.int .i64 0, .int .i64 0, .int .i64 0, .int .i64 0, .int .i64 0, .int .i64 0, .int .i64 0, .int .i64 0, .int .i64 0, .int .i64 0, .int .u16 0, .int .u16 0, .int .u16 0, .int .i64 0, .int .i64 0, .int .u16 0, .int .u16 0, .int .u16 0, .int .i64 0, .int .i64 0, .bool false, .slice none 0 0, .string ⟨#[]⟩, .int .u16 0, .int .u16 0, .int .i64 0, .int .i64 0, .int .i64 0, .int .i64 0, .int .i64 0, .int .i64 0, .int .i64 0, .int .i64 0, .int .i64 0, .int .i64 0, .int .i64 0, .int .i64 0, .int .i64 0, .int .i64 0, .int .i64 0, .int .i64 0, .int .i64 0, .int .i64 0, .int .i64 0, .int .i64 0] 33) HQ.out
  have kJ := block_cells hq2
  clear hq2
  go_wp2_with (with_reducible refine wpList_store_new (op := ⟨none, .store 33 _ _, _, _, _, _⟩) rfl _ _ _ rfl _ (coL (newCo id j) none 0).toArray rfl rfl (by kernel_rfl) rfl (one_all rfl) ?_)
  have hC := heap_last W (.cells (coL (newCo id j) none 0).toArray 33)
  refine bodyPost_ret (v := .agg (coL (newCo id j) none 0).toArray) ?_ rfl ⟨rfl, HB.out.trans ((Below.refl _ _).alloc HB.out.size _)⟩
  exact results_cell_row rfl _ _ W.heap.size _ _ _ _ (by rfl) hC Tryz.underlying33 rfl (by kernel_rfl)
end Go.Proofs.YtbnndbdnejfehaaGreatDoor
/- Hard: package hard's Build. -/
namespace Go.Proofs.YtbnndbdnejfehaaGreatDoor
open Go.ChangeShapes Go.WideShapes Go.ChangeAt Go.RowKit

def jnL (j : Jn) : List Value := [.int .u16 j.ov, .int .u16 j.ox, .int .u16 j.ol, .int .i64 j.oe, .int .i64 j.ok, .int .u16 j.nv, .int .u16 j.nx, .int .u16 j.nl, .int .i64 j.ne, .int .i64 j.nk, .bool j.two]
/-- A list of joints. -/
def JnAt (w : World) (q : Option Addr) (js : List Jn) : Prop := ∀ k, (hk : k < js.length) → ∃ g o, q = some ⟨g, o, none⟩ ∧ g < w.heap.size ∧ ∀ i, i < 11 → w.cell? ⟨g, o + k * 11 + i, none⟩ = (jnL js[k])[i]?
/-- A record, and where its bytes lie. -/
structure RcX where
  p : Option Addr
  c : Nat
  xs : List Int
def RcAt (B : Nat) (w : World) (q : Option Addr) (L : List RcX) : Prop := ∀ k, (hk : k < L.length) → ∃ g o, q = some ⟨g, o, none⟩ ∧ g < B ∧ w.cell? ⟨g, o + k, none⟩ = some (.slice L[k].p L[k].xs.length L[k].c) ∧ Sl B w (.slice L[k].p L[k].xs.length L[k].c) 1 L[k].xs.length (byt L[k].xs)
theorem JnAt.keep {w w' : World} {q : Option Addr} {js : List Jn} (h : JnAt w q js) (hb : Below w.heap.size w w') : JnAt w' q js := fun k hk => by
  obtain ⟨g, o, e, hg, hc⟩ := h k hk
  exact ⟨g, o, e, Nat.lt_of_lt_of_le hg hb.size, fun i hi => (hb.cell (p := ⟨g, o + k * 11 + i, none⟩) hg).trans (hc i hi)⟩
theorem RcAt.keep {B : Nat} {w w' : World} {q : Option Addr} {L : List RcX} (h : RcAt B w q L) (hb : Below B w w') : RcAt B w' q L := fun k hk => by
  obtain ⟨g, o, e, hg, hc, hs⟩ := h k hk
  exact ⟨g, o, e, hg, (hb.cell (p := ⟨g, o + k, none⟩) hg).trans hc, hs.keep hb⟩
theorem CoOwn.new (base : Nat) (w : World) (id : Int) (j : Jn) : CoOwn base w ⟨newCo id j, none, 0⟩ := ⟨rfl, .inl ⟨rfl, rfl⟩⟩
theorem CsAt.nil (base : Nat) (w : World) : CsAt base w (.slice none 0 0) [] := ⟨⟨rfl, .inl ⟨rfl, rfl⟩⟩, fun x hx => by cases hx⟩
/-- How great cores are that records have built. -/
def LInv (k : Nat) (l : List CoX) : Prop := ∀ x ∈ l, 0 ≤ x.c.l.b ∧ x.c.l.b ≤ 1125899906842624 ∧ x.c.l.es.length ≤ k
theorem LInv.up {k : Nat} {l : List CoX} (h : LInv k l) : LInv (k + 1) l := fun x hx => ⟨(h x hx).1, (h x hx).2.1, by have := (h x hx).2.2; omega⟩
theorem sayB_en {xs : List Int} (ho : Oct xs) {b bt : Int} {j : JoX} {s : ByteArray} {a : Int} (h : sayB a xs = some (.sn b bt j s)) : CnV b := by
  unfold sayB at h
  split at h
  · unfold allR at h; split at h <;> simp at h
  · split at h
    · unfold allR at h
      split at h
      · rename_i hr
        simp only [Option.some.injEq, Rc.sn.injEq] at h
        have := ((rd2_ok hrC_ok (rd2_ok hrC_ok (rd2_ok hrJ_ok rdTw_ok))).sound xs (snB xs false).1 [] ho (by show snB xs false = _; rw [← hr])).1.1
        rw [h.1] at this; exact this
      · simp at h
    · split at h
      · unfold allR at h; split at h <;> simp at h
      · split at h
        · unfold allR at h; split at h <;> simp at h
        · simp at h
theorem snL_len (l : Lg) (b bt : Int) (j : Jn) : (snL l b bt j).es.length ≤ l.es.length := by
  unfold snL
  dsimp only
  split
  · unfold compactL
    split
    · rw [List.length_drop]; omega
    · simp
  · simp
theorem LInv.say {k : Nat} {l : List CoX} (h : LInv k l) {n : Nat} (hn : n < l.length) {a : Int} {xs : List Int} (ho : Oct xs) {rc : Rc} (hs : sayB a xs = some rc) {y : CoX} (hy : y.c = apRc l[n].c rc) : LInv (k + 1) (l.set n y) := fun x hx => by
  rcases List.mem_or_eq_of_mem_set hx with hx | rfl
  · exact h.up x hx
  · have h0 := h _ (List.getElem_mem hn)
    rw [hy]
    cases rc with
    | hd tm vt => exact ⟨h0.1, h0.2.1, by have := h0.2.2; show _ ≤ k + 1; exact Nat.le_succ_of_le this⟩
    | sn b bt j s =>
      have hb := sayB_en ho hs
      exact ⟨hb.1, hb.2, by have := snL_len l[n].c.l b bt (jnX j); have := h0.2.2; show (snL l[n].c.l b bt (jnX j)).es.length ≤ k + 1; omega⟩
    | en i e =>
      unfold apRc
      dsimp only
      split
      · exact ⟨h0.1, h0.2.1, by show (_ ++ [e]).length ≤ _; rw [List.length_append, List.length_take]; have := h0.2.2; simp only [List.length_singleton]; omega⟩
      · exact ⟨h0.1, h0.2.1, by have := h0.2.2; omega⟩
    | ct i => exact ⟨h0.1, h0.2.1, by show (List.take _ _).length ≤ _; rw [List.length_take]; have := h0.2.2; omega⟩
end Go.Proofs.YtbnndbdnejfehaaGreatDoor
/- Core: does core do anything yet: the plain law. -/
namespace Go.Proofs.YtbnndbdnejfehaaGreatDoor

/-- Three voters. -/
def j3 : Jn := ⟨14, 0, 0, 2, 2, 0, 0, 0, 0, 0, false⟩
def mV3 : Ms := { ms0 with k := 2, fr := 2, dst := 1, tm := 1, yes := true }
/-- A new core that has waited. -/
def c3 (i : Int) : Co := { newCo 1 j3 with wt := i }
theorem j3_ok : JnO j3 := by
  constructor <;> first | decide +kernel | (constructor <;> constructor <;> first | (unfold In16 joX j3; decide) | (unfold In64 joX j3; decide))
theorem lg3_ok : LgO { lg0 with j := j3 } := ⟨⟨by decide, by decide, by decide⟩, j3_ok, fun e h => by cases h⟩
theorem fit3 {c : Co} (hl : c.l = { lg0 with j := j3 }) (hi : c.id = 1) (hx : c.nx = fun _ => 0) (hm : c.mt = fun _ => 0) (hc : c.cm = 0) (N : Nat) : CoFit N c := by
  refine ⟨by rw [hl]; exact lg3_ok, by rw [hl]; exact Nat.zero_le _, by omega, by omega, fun n _ => ?_, fun n _ => ?_, ?_, ?_⟩
  · rw [hx]; exact ⟨Int.le_refl _, (by decide : (0 : Int) ≤ 4611686018427387904)⟩
  · rw [hm, hl]; exact ⟨Int.le_refl _, Int.le_refl _⟩
  · rw [hc, hl]; decide
  · rw [hc, hl]; decide
theorem c3_fit (i : Int) (N : Nat) : CoFit N (c3 i) := fit3 rfl rfl rfl rfl rfl N
theorem tick3 (i : Nat) (h : i < 15) : tickA (c3 i) = ⟨c3 (i + 1 : Nat), []⟩ := by
  have e : tickA (c3 i) = if leadsN (confL (c3 i).l) 1 = true ∧ patience 1 ≤ (i : Int) + 1 ∧ (0 : Int) < 1099511627776 then standsA ⟨c3 ((i : Int) + 1), []⟩ else ⟨c3 ((i : Int) + 1), []⟩ := by
    unfold tickA; exact if_neg (show ¬((0 : Int) = 2) by decide)
  rw [e, if_neg (by intro h2; have := h2.2.1; unfold patience at this; omega)]
  rfl
theorem tick3e : tickA (c3 15) = ⟨candC (c3 16), askL (candC (c3 16))⟩ := by
  have e : tickA (c3 15) = if leadsN (confL (c3 15).l) 1 = true ∧ patience 1 ≤ (15 : Int) + 1 ∧ (0 : Int) < 1099511627776 then standsA ⟨c3 16, []⟩ else ⟨c3 16, []⟩ := by
    unfold tickA; exact if_neg (by decide)
  rw [e, if_pos (by decide +kernel)]
  exact stands_no [] (by decide +kernel)
theorem cand3_fit (N : Nat) : CoFit N (candC (c3 16)) := fit3 rfl rfl rfl rfl rfl N
theorem cand3_out : (askL (candC (c3 16))).length = 2 := by decide +kernel
theorem step3 : (stepB (candC (c3 16)) mV3).c.role = 2 ∧ (stepB (candC (c3 16)) mV3).out.length = 2 := by decide +kernel
end Go.Proofs.YtbnndbdnejfehaaGreatDoor
