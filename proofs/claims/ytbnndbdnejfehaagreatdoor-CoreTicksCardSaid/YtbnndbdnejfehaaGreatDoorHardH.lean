import Derived.Test.YtbnndbdnejfehaaGreatDoorLogU
import Derived.Deep.DrawnRows
import Derived.Test.YtbnndbdnejfehaaGreatDoorLogP
import Derived.Test.YtbnndbdnejfehaaGreatDoorLogG
import Derived.Lib.MinMax
import Derived.Test.YtbnndbdnejfehaaGreatDoorLogV
import Derived.Test.YtbnndbdnejfehaaGreatDoorAgg
/- Entries: append of a list to a row of the call's own, as a step. -/
namespace Go.Proofs.YtbnndbdnejfehaaGreatDoor
open Go.ChangeShapes Go.WideShapes Go.ChangeAt Go.RowKit

theorem wp_append_sl {P : Program} {w : World} {o : Oper} {a : Act} {K : Act → World → Prop} {Q : Exit → Act → World → Prop} (s x : Operand) (t : TypeId)
    (ho : o.op = .call { callee := .builtin .append, args := #[s, x], argTypes := #[t, t] })
    (base : Nat) (e : TypeId) (i : TypeInfo) (z : Value) (size bytes : Nat) (ht : P.underlying t = some (.slice e)) (hi : P.info? e = some i) (hz : i.zero = some z)
    (hsize : i.size = size) (hby : i.bytes = bytes) (hzs : z.cells.size = size) (hsz : 0 < size)
    (v : Value) (n : Nat) (xs : List Value) (hs : a.eval s = v) (hown : w.ownsRow base e size v n xs)
    (B : Nat) (u : Value) (m : Nat) (news : List Value) (hx : a.eval x = u) (hsl : Sl B w u size m news) (h1 : ∀ u ∈ news, u.oneCell' = true)
    (h63 : n + m ≤ maxLen) (hbytes : (n + m) * bytes ≤ 140737488355328) (hbase : base ≤ w.heap.size)
    (h : ∀ v' w', w'.ownsRow base e size v' (n + m) (xs ++ news) → w.grownBy w' v.ownBlock → K (a.put o.dst v') w') : o.wp P a w K Q := by
  obtain ⟨hl, hc⟩ := hsl
  rcases hc with ⟨rfl, rfl⟩ | ⟨ad, cap, rfl, _, _, hcell⟩
  · have hn : news = [] := List.eq_nil_of_length_eq_zero (by simpa using hl)
    subst hn
    have hrun := run_append_owned_none (P := P) (w := w) base t o.type e i size ht hi v n xs hown
    unfold Oper.wp
    simp [execOp, ho, resolve, invoke, builtin, hs, hx, hrun, Result.andThen]
    exact h v w (by simpa using hown) ⟨rfl, rfl, rfl, Nat.le_refl _, fun _ _ _ => rfl⟩
  · refine wp_append_own _ s x t ho base e i z size bytes ht hi hz hsize hby hzs hsz v n xs hs hown ad m cap news hx hl ?_ h1 h63 hbytes hbase (fun v' w' h2 h3 _ => h v' w' h2 h3)
    intro j u hu
    have hj : j < m * size := by rw [← hl]; exact (List.getElem?_eq_some_iff.1 hu).1
    have hm : 0 < m := Nat.pos_of_ne_zero (fun h => by rw [h] at hj; omega)
    obtain ⟨g, off, rfl, _, hcell⟩ := hcell hm
    have hadd : (⟨g, off, none⟩ : Addr).add j = ⟨g, off + j, none⟩ := by unfold Addr.add; split <;> simp_all
    rw [hadd, hcell j hj]; exact hu
/-- At a step of a region that draws its order: append to a row of the call's own, from whatever source. -/
theorem step_append_sl {P : Program} {w : World} {ops : Array Oper} {o : Oper} {a : Act} {K : Act → World → Prop} {Q : Exit → Act → World → Prop} {E : Prop} (hgd : o.guard = none) (s x : Operand) (t : TypeId)
    (ho : o.op = .call { callee := .builtin .append, args := #[s, x], argTypes := #[t, t] })
    (base : Nat) (e : TypeId) (i : TypeInfo) (z : Value) (size bytes : Nat) (ht : P.underlying t = some (.slice e)) (hi : P.info? e = some i) (hz : i.zero = some z)
    (hsize : i.size = size) (hby : i.bytes = bytes) (hzs : z.cells.size = size) (hsz : 0 < size)
    (v : Value) (n : Nat) (xs : List Value) (hs : a.eval s = v) (hown : w.ownsRow base e size v n xs)
    (B : Nat) (u : Value) (m : Nat) (news : List Value) (hx : a.eval x = u) (hsl : Sl B w u size m news) (h1 : ∀ u ∈ news, u.oneCell' = true)
    (h63 : n + m ≤ maxLen) (hbytes : (n + m) * bytes ≤ 140737488355328) (hbase : base ≤ w.heap.size)
    (h : ∀ v' w', w'.ownsRow base e size v' (n + m) (xs ++ news) → w.grownBy w' v.ownBlock → K (a.put o.dst v') w') :
    if Region.wanted o (yielded ops a.tmps) = true then Oper.wp P o a w K Q else E := by
  have hw : Region.wanted o (yielded ops a.tmps) = true := by simp [Region.wanted, hgd]
  rw [if_pos hw]
  exact wp_append_sl s x t ho base e i z size bytes ht hi hz hsize hby hzs hsz v n xs hs hown B u m news hx hsl h1 h63 hbytes hbase h
end Go.Proofs.YtbnndbdnejfehaaGreatDoor
/- The reference of entries: Slice. -/
namespace Go.Proofs.YtbnndbdnejfehaaGreatDoor
open Go.ChangeShapes Go.WideShapes Go.ChangeAt Go.RowKit

/-- Where a slice begins: the number of entries that are passed over. -/
theorem rsl_from {l : Lg} {fr : Int} (h : l.b < fr) : ∃ s : Nat, fr = l.b + 1 + s := ⟨(fr - l.b - 1).toNat, by omega⟩
theorem rsl_fromK {l : Lg} {fr : Int} {s : Nat} (h : (l.b < fr ∧ fr = l.b + 1 + s) ∨ (fr ≤ l.b ∧ s = 0)) (L : List Ent) (hL : L = l.es) : L.drop (fromK l fr) = L.drop s := by
  subst hL
  unfold fromK
  rcases h with ⟨h1, h2⟩ | ⟨h1, h2⟩
  · rw [if_pos h1, show (fr - l.b - 1).toNat = s by omega]
    rcases Nat.le_total s l.es.length with g | g
    · rw [Nat.min_eq_left g]
    · rw [Nat.min_eq_right g, List.drop_length, List.drop_eq_nil_of_le g]
  · rw [if_neg (by omega), h2]
theorem rsl_end {L : List Ent} {s k : Nat} {n : Int} (hk : (k : Int) ≤ n ∨ k = 0) (h : L.length ≤ s + k ∨ n ≤ k) : (L.drop s).take k = (L.drop s).take n.toNat := by
  rcases h with h | h
  · rw [List.take_of_length_le (by rw [List.length_drop]; omega)]
    rcases hk with hk | hk
    · rw [List.take_of_length_le (by rw [List.length_drop]; omega)]
    · subst hk; rw [List.drop_eq_nil_of_le (by omega)]; simp
  · have : k = n.toNat := by omega
    rw [this]
theorem rsl_next {L : List Ent} {s k : Nat} (h : s + k < L.length) : (L.drop s).take (k + 1) = (L.drop s).take k ++ [L[s + k]] := by
  rw [List.take_succ_eq_append_getElem (by rw [List.length_drop]; omega), List.getElem_drop]
theorem rsl_len {L : List Ent} {s k : Nat} (h : k = 0 ∨ s + k ≤ L.length) : ((L.drop s).take k).length = k := by
  rw [List.length_take, List.length_drop]; omega
set_option maxRecDepth 100000 in
set_option maxHeartbeats 8000000 in
theorem rslice_any (l : Lg) (p : Option Addr) (c : Nat) (fr n : Int) (w : World) (hF : LgFit l) (f1 : fr ≤ 9223372036854775807) (n1 : n ≤ 9223372036854775807) (hE : EnSl w (.slice p l.es.length c) l.es) :
    Calls Tryz.prog 101 #[.agg #[.int .i64 l.b, .int .i64 l.bt, .int .u16 l.j.ov, .int .u16 l.j.ox, .int .u16 l.j.ol, .int .i64 l.j.oe, .int .i64 l.j.ok, .int .u16 l.j.nv, .int .u16 l.j.nx, .int .u16 l.j.nl, .int .i64 l.j.ne, .int .i64 l.j.nk, .bool l.j.two, .slice p l.es.length c], .int .i64 fr, .int .i64 n] w fun r w' => ∃ v, r = .returned v ∧ w'.ownsRow w.heap.size 47 14 v (sliceL l fr n).length (entRow (sliceL l fr n)) ∧ Below w.heap.size w w' := by
  obtain ⟨i0, hi, hz0, hz1, hz2⟩ := info_parts Tryz.infoEn
  have HF : Hid (LgFit l) := hF
  have HE := Lib.hid hE
  have hb0 := hF.b0; have hb1 := hF.b1; have hn2 := hF.n
  have HA0 := Lib.hid (heap_last w (.cells #[.int .i64 l.b, .int .i64 l.bt, .int .u16 l.j.ov, .int .u16 l.j.ox, .int .u16 l.j.ol, .int .i64 l.j.oe, .int .i64 l.j.ok, .int .u16 l.j.nv, .int .u16 l.j.nx, .int .u16 l.j.nl, .int .i64 l.j.ne, .int .i64 l.j.nk, .bool l.j.two, .slice p l.es.length c] 30))
  have HB0 := Lib.hid ((Below.refl _ w).alloc (Nat.le_refl _) (.cells #[.int .i64 l.b, .int .i64 l.bt, .int .u16 l.j.ov, .int .u16 l.j.ox, .int .u16 l.j.ol, .int .i64 l.j.oe, .int .i64 l.j.ok, .int .u16 l.j.nv, .int .u16 l.j.nx, .int .u16 l.j.nl, .int .i64 l.j.ne, .int .i64 l.j.nk, .bool l.j.two, .slice p l.es.length c] 30))
  have hsz0 : w.heap.size < (w.alloc (.cells #[.int .i64 l.b, .int .i64 l.bt, .int .u16 l.j.ov, .int .u16 l.j.ox, .int .u16 l.j.ol, .int .i64 l.j.oe, .int .i64 l.j.ok, .int .u16 l.j.nv, .int .u16 l.j.nx, .int .u16 l.j.nl, .int .i64 l.j.ne, .int .i64 l.j.nk, .bool l.j.two, .slice p l.es.length c] 30)).heap.size := by simp
  clear hF hE
  have hs : ∃ s : Nat, max fr (l.b + 1) = l.b + 1 + s ∧ ((l.b < fr ∧ fr = l.b + 1 + s) ∨ (fr ≤ l.b ∧ s = 0)) := by
    by_cases h : l.b < fr
    · obtain ⟨s, hs⟩ := rsl_from h; exact ⟨s, by omega, .inl ⟨h, hs⟩⟩
    · exact ⟨0, by omega, .inr ⟨by omega, rfl⟩⟩
  obtain ⟨s, hm, hs⟩ := hs
  have hsb : l.b + 1 + s ≤ 9223372036854775807 := by omega
  have HD := Lib.hid (rsl_fromK hs l.es rfl)
  clear hs
  go_enter Tryz.func101, Tryz.ntmps101
  go_upto_region 2 with fail
  obtain ⟨W, hW⟩ : ∃ W, w.alloc (.cells #[.int .i64 l.b, .int .i64 l.bt, .int .u16 l.j.ov, .int .u16 l.j.ox, .int .u16 l.j.ol, .int .i64 l.j.oe, .int .i64 l.j.ok, .int .u16 l.j.nv, .int .u16 l.j.nx, .int .u16 l.j.nl, .int .i64 l.j.ne, .int .i64 l.j.nk, .bool l.j.two, .slice p l.es.length c] 30) = W := ⟨_, rfl⟩
  rw [hW] at HA0 HB0 hsz0 ⊢
  clear hW
  obtain ⟨A, eA⟩ : ∃ A, w.heap.size = A := ⟨_, rfl⟩
  rw [eA] at HA0 hsz0 ⊢
  have HB1 : Hid (∀ wr, Below W.heap.size W wr → Below w.heap.size w wr) := fun wr h => HB0.out.trans (h.mono HB0.out.size)
  clear eA
  have kA := block_cells HA0.out
  go_wp2_with fail
  clear kA hm
  go_loopw [7, 8] (fun v i wr => ∃ (k : Nat) (q : Option Addr) (cc : Nat), ((k : Int) ≤ n ∨ k = 0) ∧ (k = 0 ∨ s + k ≤ l.es.length) ∧ v = .slice q k cc ∧ i = .int .i64 (l.b + 1 + s + k) ∧ Hid (wr.ownsRow W.heap.size 47 14 (.slice q k cc) k (entRow ((l.es.drop s).take k))) ∧ Hid (Below W.heap.size W wr)) (fun _ i _ => (l.b + 1 + l.es.length - intOf i).toNat)
  case atStart => exact ⟨0, none, 0, .inr rfl, .inl rfl, rfl, by simp, World.ownsRow_nil _ _ _ _, Below.refl _ _⟩
  case round =>
    obtain ⟨k, q, cc, hkn, hkl, rfl, rfl, HO, HB⟩ := hrel
    obtain ⟨wk, rfl⟩ : ∃ wk : World, wk = wr := ⟨_, rfl⟩
    have HAk := Lib.hid (below_block HB.out (block_lt HA0.out) HA0.out)
    have kA := block_cells HAk.out
    have HLA := Lib.hid (rlast_any l p c wk hb0 hb1 hn2)
    have hsk : Hid (l.last = l.b + l.es.length) := rfl
    have HEk := Lib.hid (HE.out.keep (HB1.out _ HB.out) (Nat.le_refl _))
    obtain ⟨X, hX⟩ : ∃ X, l.last = X := ⟨_, rfl⟩
    rw [hX] at HLA hsk
    have hX1 : X ≤ l.b + l.es.length := by have := hsk.out; omega
    have hX2 : l.b + l.es.length ≤ X := by have := hsk.out; omega
    clear hX
    have hend : l.es.length ≤ s + k ∨ n ≤ k ∨ (s + k < l.es.length ∧ (k : Int) < n) := by omega
    by_cases hlt : s + k < l.es.length
    · have hd1 : decide (l.b + 1 + (s : Int) + (k : Int) ≤ X) = true := by simp; omega
      by_cases hn : (k : Int) < n
      · have hd2 : decide ((k : Int) < n) = true := by simpa using hn
        obtain ⟨e, he⟩ : ∃ e, l.es[s + k] = e := ⟨_, rfl⟩
        have hat : atL l (l.b + 1 + s + k) = (e, true) := by rw [atL_in (k := s + k) (by omega) hlt, he]
        have hnx := rsl_next hlt
        rw [he] at hnx
        have HNX := Lib.hid hnx
        have HAT := Lib.hid hat
        clear he hat hnx hend
        go_wp2_with fail
        refine HLA.out.mono ?_; rintro r w5 ⟨rfl, hb5⟩
        have HA5 := Lib.hid (below_block hb5 (block_lt HAk.out) HAk.out)
        have HB5 := Lib.hid (HB.out.trans (hb5.mono HB.out.size))
        have HO5 := Lib.hid (own_belowL HO.out hb5 (Nat.le_refl _))
        have hAT := rat_any l p c (l.b + 1 + s + k) w5 hb0 hb1 hn2 (by omega) (by omega) (HEk.out.keep hb5 (Nat.le_refl _)) HAT.out
        have HA := Lib.hid hAT
        clear hAT hb5 kA HLA HO HEk HAk
        have kA := block_cells HA5.out
        go_wp2_with fail
        refine HA.out.mono ?_; rintro r w6 ⟨rfl, hb6⟩
        have HB6 := Lib.hid (HB5.out.trans (hb6.mono HB5.out.size))
        have HO6 := Lib.hid (own_belowL HO5.out hb6 (Nat.le_refl _))
        clear hb6 kA HA HA5 HO5 HB5
        go_upto_region 6 with fail
        obtain ⟨W7, hW7⟩ : ∃ W10, w6.alloc (.cells #[.int .i64 e.t, .int .i64 e.k, .string e.d, .int .u16 e.j.ov, .int .u16 e.j.ox, .int .u16 e.j.ol, .int .i64 e.j.oe, .int .i64 e.j.ok, .int .u16 e.j.nv, .int .u16 e.j.nx, .int .u16 e.j.nl, .int .i64 e.j.ne, .int .i64 e.j.nk, .bool e.j.two] 47) = W10 := ⟨_, rfl⟩
        have hE7 : W7.heap[w6.heap.size]? = some (.cells #[.int .i64 e.t, .int .i64 e.k, .string e.d, .int .u16 e.j.ov, .int .u16 e.j.ox, .int .u16 e.j.ol, .int .i64 e.j.oe, .int .i64 e.j.ok, .int .u16 e.j.nv, .int .u16 e.j.nx, .int .u16 e.j.nl, .int .i64 e.j.ne, .int .i64 e.j.nk, .bool e.j.two] 47 (0, 0)) := by rw [← hW7]; exact heap_last _ _
        have HB7 := Lib.hid (HB6.out.trans ((below_new _ _ hW7).mono HB6.out.size))
        have HO7 := Lib.hid (own_belowL HO6.out (below_new _ _ hW7) (Nat.le_refl _))
        rw [hW7]
        obtain ⟨F, eF⟩ : ∃ D, w6.heap.size = D := ⟨_, rfl⟩
        rw [eF] at hE7 ⊢
        have kE := block_cells hE7
        clear hW7 eF hE7 HB6 HO6
        have HO8 := Lib.hid (own_belowL HO7.out (below_new W7 (.cells #[.int .i64 e.t, .int .i64 e.k, .string e.d, .int .u16 e.j.ov, .int .u16 e.j.ox, .int .u16 e.j.ol, .int .i64 e.j.oe, .int .i64 e.j.ok, .int .u16 e.j.nv, .int .u16 e.j.nx, .int .u16 e.j.nl, .int .i64 e.j.ne, .int .i64 e.j.nk, .bool e.j.two] 47) rfl) (Nat.le_refl _))
        have HB8 := Lib.hid (HB7.out.trans ((below_new W7 (.cells #[.int .i64 e.t, .int .i64 e.k, .string e.d, .int .u16 e.j.ov, .int .u16 e.j.ox, .int .u16 e.j.ol, .int .i64 e.j.oe, .int .i64 e.j.ok, .int .u16 e.j.nv, .int .u16 e.j.nx, .int .u16 e.j.nl, .int .i64 e.j.ne, .int .i64 e.j.nk, .bool e.j.two] 47) rfl).mono HB7.out.size))
        have HS8 := Lib.hid (EnSl.one (e := e) (heap_last W7 (.cells #[.int .i64 e.t, .int .i64 e.k, .string e.d, .int .u16 e.j.ov, .int .u16 e.j.ox, .int .u16 e.j.ol, .int .i64 e.j.oe, .int .i64 e.j.ok, .int .u16 e.j.nv, .int .u16 e.j.nx, .int .u16 e.j.nl, .int .i64 e.j.ne, .int .i64 e.j.nk, .bool e.j.two] 47)))
        have hL8 := entC_one [e]
        have HL8 := Lib.hid hL8
        clear hL8
        go_wp2_with (at_builtin; refine wpList_append_sl rfl _ _ 28 rfl W.heap.size 47 i0 (.agg #[.int .i64 0, .int .i64 0, .string ⟨#[]⟩, .int .u16 0, .int .u16 0, .int .u16 0, .int .i64 0, .int .i64 0, .int .u16 0, .int .u16 0, .int .u16 0, .int .i64 0, .int .i64 0, .bool false]) 14 88 Tryz.underlying28 hi hz0 hz1 hz2 rfl (by decide) _ k (entRow ((l.es.drop s).take k)) rfl HO8.out _ _ 1 (entRow [e]) rfl HS8.out HL8.out ?_ ?_ (by have := HB8.out.size; exact this) ?_)
        · unfold maxLen; omega
        · omega
        intro v3 w3 hown3 hgrow3
        obtain ⟨q3, cc3, rfl⟩ := own_slice hown3
        have HO3 : Hid (w3.ownsRow W.heap.size 47 14 (.slice q3 (k + 1) cc3) (k + 1) (entRow ((l.es.drop s).take (k + 1)))) := by
          show World.ownsRow _ _ _ _ _ _ _; rw [HNX.out, entRow_app]; exact hown3
        have HB3 : Hid (Below W.heap.size W w3) := HB8.out.grown hgrow3 HB8.out.size (fun j hj => (own_geL HO8.out j hj).1)
        clear hown3 hgrow3 HO8 HS8 HL8 kE HB8 HO7
        go_wp2_with fail
        go_roundw
        case rel => exact ⟨k + 1, q3, cc3, .inl (by omega), .inr (by omega), rfl, by go_num, HO3, HB3⟩
        case measure => simp [intOf]; omega
      · have hd2 : decide ((k : Int) < n) = false := by simp; omega
        have HSL : Hid (sliceL l fr n = (l.es.drop s).take k) := by
          show _ = _; unfold sliceL; rw [HD.out]; exact (rsl_end hkn (.inr (by omega))).symm
        have hlen : ((l.es.drop s).take k).length = k := rsl_len hkl
        have HLE := Lib.hid hlen
        clear hlen hend
        go_wp2_with fail
        refine HLA.out.mono ?_; rintro r w5 ⟨rfl, hb5⟩
        have HB5 := Lib.hid (HB1.out _ (HB.out.trans (hb5.mono HB.out.size)))
        have HO5 := Lib.hid ((own_belowL HO.out hb5 (Nat.le_refl _)).mono (base' := w.heap.size) HB0.out.size)
        clear hb5 kA HLA HO HB
        go_wp2_with fail
        go_ret
        rw [HSL.out, HLE.out]
        exact ⟨_, rfl, HO5.out, HB5.out⟩
    · have hd1 : decide (l.b + 1 + (s : Int) + (k : Int) ≤ X) = false := by simp; omega
      have HSL : Hid (sliceL l fr n = (l.es.drop s).take k) := by
        show _ = _; unfold sliceL; rw [HD.out]; exact (rsl_end hkn (.inl (by omega))).symm
      have hlen : ((l.es.drop s).take k).length = k := rsl_len hkl
      have HLE := Lib.hid hlen
      clear hlen hend
      go_wp2_with fail
      refine HLA.out.mono ?_; rintro r w5 ⟨rfl, hb5⟩
      have HB5 := Lib.hid (HB1.out _ (HB.out.trans (hb5.mono HB.out.size)))
      have HO5 := Lib.hid ((own_belowL HO.out hb5 (Nat.le_refl _)).mono (base' := w.heap.size) HB0.out.size)
      clear hb5 kA HLA HO HB
      go_wp2_with fail
      go_ret
      rw [HSL.out, HLE.out]
      exact ⟨_, rfl, HO5.out, HB5.out⟩
end Go.Proofs.YtbnndbdnejfehaaGreatDoor
/- The boxes of a call: a log, and what is returned. -/
namespace Go.Proofs.YtbnndbdnejfehaaGreatDoor
open Go.ChangeShapes Go.WideShapes Go.ChangeAt Go.RowKit

/-- The boxes of a call: a log, and what it returns; the memory below them stays. -/
structure BoxW (w : World) (A R N : Nat) (l : Lg) (p : Option Addr) (c : Nat) (wr : World) : Prop where
  a : wr.heap[A]? = some (.cells #[.int .i64 l.b, .int .i64 l.bt, .int .u16 l.j.ov, .int .u16 l.j.ox, .int .u16 l.j.ol, .int .i64 l.j.oe, .int .i64 l.j.ok, .int .u16 l.j.nv, .int .u16 l.j.nx, .int .u16 l.j.nl, .int .i64 l.j.ne, .int .i64 l.j.nk, .bool l.j.two, .slice p l.es.length c] 30 (0, 0))
  z : wr.heap[R]? = some (.cells #[.int .i64 0, .int .i64 0, .int .u16 0, .int .u16 0, .int .u16 0, .int .i64 0, .int .i64 0, .int .u16 0, .int .u16 0, .int .u16 0, .int .i64 0, .int .i64 0, .bool false, .slice none 0 0] 30 (0, 0))
  b : Below A w wr
  s : N ≤ wr.heap.size
  an : A < N
  rn : R < N
theorem BoxW.keep {w wr w' : World} {A R N : Nat} {l : Lg} {p : Option Addr} {c : Nat} (h : BoxW w A R N l p c wr) (hb : Below wr.heap.size wr w') : BoxW w A R N l p c w' :=
  ⟨below_block hb (block_lt h.a) h.a, below_block hb (block_lt h.z) h.z, h.b.trans (hb.mono (by have := h.s; have := h.an; omega)), Nat.le_trans h.s hb.size, h.an, h.rn⟩
theorem BoxW.alloc {w wr : World} {A R N : Nat} {l : Lg} {p : Option Addr} {c : Nat} (h : BoxW w A R N l p c wr) (o : Obj) : BoxW w A R N l p c (wr.alloc o) := h.keep (below_new _ _ rfl)
theorem BoxW.grown {w wr w' : World} {A R N : Nat} {l : Lg} {p : Option Addr} {c : Nat} {row : Option Nat} (h : BoxW w A R N l p c wr) (hg : wr.grownBy w' row) (hr : ∀ k, row = some k → N ≤ k) : BoxW w A R N l p c w' :=
  ⟨(hg.block A (block_lt h.a) (fun e => by have := hr A e.symm; have := h.an; omega)).trans h.a, (hg.block R (block_lt h.z) (fun e => by have := hr R e.symm; have := h.rn; omega)).trans h.z, h.b.grown hg (by have := h.s; have := h.an; omega) (fun k hk => by have := hr k hk; have := h.an; omega), Nat.le_trans h.s hg.size, h.an, h.rn⟩
/-- A row that was appended to goes into the box's last field, and the box into the result. -/
theorem BoxW.out {w wr : World} {A R N : Nat} {l m : Lg} {p q : Option Addr} {c cc : Nat} (h : BoxW w A R N l p c wr) (hAR : A < R) (hm : m.b = l.b ∧ m.bt = l.bt ∧ m.j = l.j) (ho : wr.ownsRow N 47 14 (.slice q m.es.length cc) m.es.length (entRow m.es)) :
    BoxW w A R N m q cc (wr.setCell ⟨A, 13, none⟩ (.slice q m.es.length cc)) ∧ (wr.setCell ⟨A, 13, none⟩ (.slice q m.es.length cc)).ownsRow N 47 14 (.slice q m.es.length cc) m.es.length (entRow m.es) := by
  obtain ⟨h1, h2, h3⟩ := hm
  have hk := cells_setL h.a 13 (.slice q m.es.length cc)
  simp only [zD, zE, zF] at hk
  have hg := grown_setL (grown_reflL wr (some A)) 13 (.slice q m.es.length cc)
  refine ⟨⟨by rw [h1, h2, h3]; exact hk, (hg.block R (block_lt h.z) (by simp; omega)).trans h.z, h.b.setCell (p := ⟨A, 13, none⟩) (Nat.le_refl _) _, Nat.le_trans h.s hg.size, h.an, h.rn⟩, own_farL ho hg h.an⟩
theorem BoxW.fin {w wr : World} {A R N : Nat} {m : Lg} {q : Option Addr} {cc : Nat} (h : BoxW w A R N m q cc wr) (hAR : A ≤ R) (ho : wr.ownsRow N 47 14 (.slice q m.es.length cc) m.es.length (entRow m.es)) :
    (∀ j, (put14 wr R (.int .i64 m.b) (.int .i64 m.bt) (.int .u16 m.j.ov) (.int .u16 m.j.ox) (.int .u16 m.j.ol) (.int .i64 m.j.oe) (.int .i64 m.j.ok) (.int .u16 m.j.nv) (.int .u16 m.j.nx) (.int .u16 m.j.nl) (.int .i64 m.j.ne) (.int .i64 m.j.nk) (.bool m.j.two) (.slice q m.es.length cc)).cell? ⟨R, j, none⟩ = #[.int .i64 m.b, .int .i64 m.bt, .int .u16 m.j.ov, .int .u16 m.j.ox, .int .u16 m.j.ol, .int .i64 m.j.oe, .int .i64 m.j.ok, .int .u16 m.j.nv, .int .u16 m.j.nx, .int .u16 m.j.nl, .int .i64 m.j.ne, .int .i64 m.j.nk, .bool m.j.two, .slice q m.es.length cc][j]?) ∧ (put14 wr R (.int .i64 m.b) (.int .i64 m.bt) (.int .u16 m.j.ov) (.int .u16 m.j.ox) (.int .u16 m.j.ol) (.int .i64 m.j.oe) (.int .i64 m.j.ok) (.int .u16 m.j.nv) (.int .u16 m.j.nx) (.int .u16 m.j.nl) (.int .i64 m.j.ne) (.int .i64 m.j.nk) (.bool m.j.two) (.slice q m.es.length cc)).ownsRow N 47 14 (.slice q m.es.length cc) m.es.length (entRow m.es) ∧ Below A w (put14 wr R (.int .i64 m.b) (.int .i64 m.bt) (.int .u16 m.j.ov) (.int .u16 m.j.ox) (.int .u16 m.j.ol) (.int .i64 m.j.oe) (.int .i64 m.j.ok) (.int .u16 m.j.nv) (.int .u16 m.j.nx) (.int .u16 m.j.nl) (.int .i64 m.j.ne) (.int .i64 m.j.nk) (.bool m.j.two) (.slice q m.es.length cc)) := by
  have F := put14_ok h.z h.b hAR (.int .i64 m.b) (.int .i64 m.bt) (.int .u16 m.j.ov) (.int .u16 m.j.ox) (.int .u16 m.j.ol) (.int .i64 m.j.oe) (.int .i64 m.j.ok) (.int .u16 m.j.nv) (.int .u16 m.j.nx) (.int .u16 m.j.nl) (.int .i64 m.j.ne) (.int .i64 m.j.nk) (.bool m.j.two) (.slice q m.es.length cc)
  exact ⟨block_cells F.1, own_farL ho (put14_grown wr R (.int .i64 m.b) (.int .i64 m.bt) (.int .u16 m.j.ov) (.int .u16 m.j.ox) (.int .u16 m.j.ol) (.int .i64 m.j.oe) (.int .i64 m.j.ok) (.int .u16 m.j.nv) (.int .u16 m.j.nx) (.int .u16 m.j.nl) (.int .i64 m.j.ne) (.int .i64 m.j.nk) (.bool m.j.two) (.slice q m.es.length cc)) h.rn, F.2⟩
end Go.Proofs.YtbnndbdnejfehaaGreatDoor
/- The reference of entries: Push. -/
namespace Go.Proofs.YtbnndbdnejfehaaGreatDoor
open Go.ChangeShapes Go.WideShapes Go.ChangeAt Go.RowKit

theorem cutV {R : World → Option Addr → Nat → Prop} {P : Nat → Nat → Value → Option Addr → Nat → World → Prop} {Q : Prop} (h : (∀ a b v q c w, R w q c → P a b v q c w) → Q) (p : ∀ a b v q c w, R w q c → P a b v q c w) : Q := h p
set_option maxRecDepth 100000 in
set_option maxHeartbeats 16000000 in
theorem rpush_any (l : Lg) (p : Option Addr) (c : Nat) (e : Ent) (w : World) (hE : EnSl w (.slice p l.es.length c) l.es) (hn : l.es.length < 1000000) :
    Calls Tryz.prog 133 #[.agg #[.int .i64 l.b, .int .i64 l.bt, .int .u16 l.j.ov, .int .u16 l.j.ox, .int .u16 l.j.ol, .int .i64 l.j.oe, .int .i64 l.j.ok, .int .u16 l.j.nv, .int .u16 l.j.nx, .int .u16 l.j.nl, .int .i64 l.j.ne, .int .i64 l.j.nk, .bool l.j.two, .slice p l.es.length c], .agg #[.int .i64 e.t, .int .i64 e.k, .string e.d, .int .u16 e.j.ov, .int .u16 e.j.ox, .int .u16 e.j.ol, .int .i64 e.j.oe, .int .i64 e.j.ok, .int .u16 e.j.nv, .int .u16 e.j.nx, .int .u16 e.j.nl, .int .i64 e.j.ne, .int .i64 e.j.nk, .bool e.j.two]] w (LgEnd w.heap.size w (pushL l e)) := by
  obtain ⟨i0, hi, hz0, hz1, hz2⟩ := info_parts Tryz.infoEn
  have HE := Lib.hid hE
  clear hE
  go_enter Tryz.func133, Tryz.ntmps133
  go_upto_region 1 with fail
  rename_i K hK
  obtain ⟨W0, hW0⟩ : ∃ W0, w.alloc (.cells #[.int .i64 l.b, .int .i64 l.bt, .int .u16 l.j.ov, .int .u16 l.j.ox, .int .u16 l.j.ol, .int .i64 l.j.oe, .int .i64 l.j.ok, .int .u16 l.j.nv, .int .u16 l.j.nx, .int .u16 l.j.nl, .int .i64 l.j.ne, .int .i64 l.j.nk, .bool l.j.two, .slice p l.es.length c] 30) = W0 := ⟨_, rfl⟩
  obtain ⟨W1, hW1⟩ : ∃ W1, W0.alloc (.cells #[.int .i64 e.t, .int .i64 e.k, .string e.d, .int .u16 e.j.ov, .int .u16 e.j.ox, .int .u16 e.j.ol, .int .i64 e.j.oe, .int .i64 e.j.ok, .int .u16 e.j.nv, .int .u16 e.j.nx, .int .u16 e.j.nl, .int .i64 e.j.ne, .int .i64 e.j.nk, .bool e.j.two] 47) = W1 := ⟨_, rfl⟩
  obtain ⟨W, hW⟩ : ∃ W, W1.alloc (.cells #[.int .i64 0, .int .i64 0, .int .u16 0, .int .u16 0, .int .u16 0, .int .i64 0, .int .i64 0, .int .u16 0, .int .u16 0, .int .u16 0, .int .i64 0, .int .i64 0, .bool false, .slice none 0 0] 30) = W := ⟨_, rfl⟩
  have hs0 : W0.heap.size = w.heap.size + 1 := by rw [← hW0]; simp
  have hs1 : W1.heap.size = w.heap.size + 1 + 1 := by rw [← hW1]; simp; omega
  have hs2 : W.heap.size = w.heap.size + 3 := by rw [← hW]; simp; omega
  have LL := (Lies.new HE.out hW0).keep (below_new _ _ hW1) |>.keep (below_new _ _ hW)
  have hEE : W1.heap[w.heap.size + 1]? = some (.cells #[.int .i64 e.t, .int .i64 e.k, .string e.d, .int .u16 e.j.ov, .int .u16 e.j.ox, .int .u16 e.j.ol, .int .i64 e.j.oe, .int .i64 e.j.ok, .int .u16 e.j.nv, .int .u16 e.j.nx, .int .u16 e.j.nl, .int .i64 e.j.ne, .int .i64 e.j.nk, .bool e.j.two] 47 (0, 0)) := by rw [← hW1, ← hs0]; exact heap_last _ _
  have hE2 := below_block (below_new _ _ hW) (block_lt hEE) hEE
  have hZ : W.heap[w.heap.size + 1 + 1]? = some (.cells #[.int .i64 0, .int .i64 0, .int .u16 0, .int .u16 0, .int .u16 0, .int .i64 0, .int .i64 0, .int .u16 0, .int .u16 0, .int .u16 0, .int .i64 0, .int .i64 0, .bool false, .slice none 0 0] 30 (0, 0)) := by rw [← hW, ← hs1]; exact heap_last _ _
  have hB := ((below_new _ _ hW0).trans ((below_new _ _ hW1).mono (by omega))).trans ((below_new _ _ hW).mono (by omega : w.heap.size ≤ W1.heap.size))
  rw [hW0, hW1, hW]
  obtain ⟨A, eA⟩ : ∃ A, w.heap.size = A := ⟨_, rfl⟩
  have HEA : Hid (w.heap.size = A) := eA
  rw [eA] at LL hE2 hZ hs2 ⊢
  have HPW : Hid (BoxW w A (A + 1 + 1) W.heap.size l p c W) := ⟨LL.h, hZ, by rw [← eA]; exact hB, Nat.le_refl _, by omega, by omega⟩
  have HSW := Lib.hid LL.e
  have kA := block_cells LL.h
  have fA := block_free LL.h
  have kE := block_cells hE2
  have hAW : A < W.heap.size := by omega
  have hAW1 : A + 1 < W.heap.size := by omega
  have hAW2 : A + 1 + 1 < W.heap.size := by omega
  have HSI := Lib.hid hs2
  clear hW0 hW1 hW hs0 hs1 hs2 LL hEE hZ hB eA HE
  have hpa := HPW.out.alloc (.cells #[] 47)
  have HPa := Lib.hid (hpa.keep (Below.refl _ _).drew)
  have HPb := Lib.hid ((hpa.alloc (.cells #[.int .i64 e.t, .int .i64 e.k, .string e.d, .int .u16 e.j.ov, .int .u16 e.j.ox, .int .u16 e.j.ol, .int .i64 e.j.oe, .int .i64 e.j.ok, .int .u16 e.j.nv, .int .u16 e.j.nx, .int .u16 e.j.nl, .int .i64 e.j.ne, .int .i64 e.j.nk, .bool e.j.two] 47)).keep (Below.refl _ _).drew)
  clear hpa
  have HPc := Lib.hid (((HPW.out.alloc (.cells #[.int .i64 e.t, .int .i64 e.k, .string e.d, .int .u16 e.j.ov, .int .u16 e.j.ox, .int .u16 e.j.ol, .int .i64 e.j.oe, .int .i64 e.j.ok, .int .u16 e.j.nv, .int .u16 e.j.nx, .int .u16 e.j.nl, .int .i64 e.j.ne, .int .i64 e.j.nk, .bool e.j.two] 47)).alloc (.cells #[] 47)).keep (Below.refl _ _).drew)
  have hoa : (W.alloc (.cells #[] 47)).ownsRow W.heap.size 47 14 (.slice (some ⟨W.heap.size, 0, none⟩) 0 0) 0 [] := World.ownsRow_made W #[] 0 (Nat.le_refl _) (Nat.zero_le _) (by simp)
  have HOa := Lib.hid (own_belowL hoa (Below.refl _ _).drew (Nat.le_refl _))
  have HOb := Lib.hid (own_belowL (own_belowL hoa (below_new (W.alloc (.cells #[] 47)) (.cells #[.int .i64 e.t, .int .i64 e.k, .string e.d, .int .u16 e.j.ov, .int .u16 e.j.ox, .int .u16 e.j.ol, .int .i64 e.j.oe, .int .i64 e.j.ok, .int .u16 e.j.nv, .int .u16 e.j.nx, .int .u16 e.j.nl, .int .i64 e.j.ne, .int .i64 e.j.nk, .bool e.j.two] 47) rfl) (Nat.le_refl _)) (Below.refl _ _).drew (Nat.le_refl _))
  clear hoa
  have hoc : ((W.alloc (.cells #[.int .i64 e.t, .int .i64 e.k, .string e.d, .int .u16 e.j.ov, .int .u16 e.j.ox, .int .u16 e.j.ol, .int .i64 e.j.oe, .int .i64 e.j.ok, .int .u16 e.j.nv, .int .u16 e.j.nx, .int .u16 e.j.nl, .int .i64 e.j.ne, .int .i64 e.j.nk, .bool e.j.two] 47)).alloc (.cells #[] 47)).ownsRow W.heap.size 47 14 (.slice (some ⟨(W.alloc (.cells #[.int .i64 e.t, .int .i64 e.k, .string e.d, .int .u16 e.j.ov, .int .u16 e.j.ox, .int .u16 e.j.ol, .int .i64 e.j.oe, .int .i64 e.j.ok, .int .u16 e.j.nv, .int .u16 e.j.nx, .int .u16 e.j.nl, .int .i64 e.j.ne, .int .i64 e.j.nk, .bool e.j.two] 47)).heap.size, 0, none⟩) 0 0) 0 [] := (World.ownsRow_made (W.alloc (.cells #[.int .i64 e.t, .int .i64 e.k, .string e.d, .int .u16 e.j.ov, .int .u16 e.j.ox, .int .u16 e.j.ol, .int .i64 e.j.oe, .int .i64 e.j.ok, .int .u16 e.j.nv, .int .u16 e.j.nx, .int .u16 e.j.nl, .int .i64 e.j.ne, .int .i64 e.j.nk, .bool e.j.two] 47)) #[] 0 (Nat.le_refl _) (Nat.zero_le _) (by simp)).mono (by simp)
  have e1 : (W.alloc (.cells #[.int .i64 e.t, .int .i64 e.k, .string e.d, .int .u16 e.j.ov, .int .u16 e.j.ox, .int .u16 e.j.ol, .int .i64 e.j.oe, .int .i64 e.j.ok, .int .u16 e.j.nv, .int .u16 e.j.nx, .int .u16 e.j.nl, .int .i64 e.j.ne, .int .i64 e.j.nk, .bool e.j.two] 47)).heap.size = W.heap.size + 1 := by simp
  have e2 : (W.alloc (.cells #[] 47)).heap.size = W.heap.size + 1 := by simp
  rw [e1] at hoc
  have HOc := Lib.hid (own_belowL hoc (Below.refl _ _).drew (Nat.le_refl _))
  clear hoc
  have hsa := HSW.out.keep (below_new W (.cells #[] 47) rfl) (Nat.le_refl _)
  have HSa := Lib.hid (hsa.keep (Below.refl _ _).drew (Nat.le_refl _))
  have HSb := Lib.hid ((hsa.keep (below_new _ (.cells #[.int .i64 e.t, .int .i64 e.k, .string e.d, .int .u16 e.j.ov, .int .u16 e.j.ox, .int .u16 e.j.ol, .int .i64 e.j.oe, .int .i64 e.j.ok, .int .u16 e.j.nv, .int .u16 e.j.nx, .int .u16 e.j.nl, .int .i64 e.j.ne, .int .i64 e.j.nk, .bool e.j.two] 47) rfl) (Nat.le_refl _)).keep (Below.refl _ _).drew (Nat.le_refl _))
  clear hsa
  have HSc := Lib.hid (((HSW.out.keep (below_new W (.cells #[.int .i64 e.t, .int .i64 e.k, .string e.d, .int .u16 e.j.ov, .int .u16 e.j.ox, .int .u16 e.j.ol, .int .i64 e.j.oe, .int .i64 e.j.ok, .int .u16 e.j.nv, .int .u16 e.j.nx, .int .u16 e.j.nl, .int .i64 e.j.ne, .int .i64 e.j.nk, .bool e.j.two] 47) rfl) (Nat.le_refl _)).keep (below_new _ (.cells #[] 47) rfl) (Nat.le_refl _)).keep (Below.refl _ _).drew (Nat.le_refl _))
  have HTa : Hid (∀ w8, (W.alloc (.cells #[] 47)).drew.grownBy w8 (some W.heap.size) → True) := fun _ _ => trivial
  have HTb : Hid (∀ w8, ((W.alloc (.cells #[] 47)).alloc (.cells #[.int .i64 e.t, .int .i64 e.k, .string e.d, .int .u16 e.j.ov, .int .u16 e.j.ox, .int .u16 e.j.ol, .int .i64 e.j.oe, .int .i64 e.j.ok, .int .u16 e.j.nv, .int .u16 e.j.nx, .int .u16 e.j.nl, .int .i64 e.j.ne, .int .i64 e.j.nk, .bool e.j.two] 47)).drew.grownBy w8 (some W.heap.size) → EnSl w8 (.slice (some ⟨W.heap.size + 1, 0, none⟩) [e].length 1) [e]) := fun w8 hg => by
    have := EnSl.one (e := e) ((hg.block (W.alloc (.cells #[] 47)).heap.size (by show _ < ((W.alloc (.cells #[] 47)).alloc (.cells #[.int .i64 e.t, .int .i64 e.k, .string e.d, .int .u16 e.j.ov, .int .u16 e.j.ox, .int .u16 e.j.ol, .int .i64 e.j.oe, .int .i64 e.j.ok, .int .u16 e.j.nv, .int .u16 e.j.nx, .int .u16 e.j.nl, .int .i64 e.j.ne, .int .i64 e.j.nk, .bool e.j.two] 47)).heap.size; simp) (by simp)).trans (heap_last (W.alloc (.cells #[] 47)) (.cells #[.int .i64 e.t, .int .i64 e.k, .string e.d, .int .u16 e.j.ov, .int .u16 e.j.ox, .int .u16 e.j.ol, .int .i64 e.j.oe, .int .i64 e.j.ok, .int .u16 e.j.nv, .int .u16 e.j.nx, .int .u16 e.j.nl, .int .i64 e.j.ne, .int .i64 e.j.nk, .bool e.j.two] 47)))
    rwa [e2] at this
  have HTc : Hid (∀ w8, ((W.alloc (.cells #[.int .i64 e.t, .int .i64 e.k, .string e.d, .int .u16 e.j.ov, .int .u16 e.j.ox, .int .u16 e.j.ol, .int .i64 e.j.oe, .int .i64 e.j.ok, .int .u16 e.j.nv, .int .u16 e.j.nx, .int .u16 e.j.nl, .int .i64 e.j.ne, .int .i64 e.j.nk, .bool e.j.two] 47)).alloc (.cells #[] 47)).drew.grownBy w8 (some (W.heap.size + 1)) → EnSl w8 (.slice (some ⟨W.heap.size, 0, none⟩) [e].length 1) [e]) := fun w8 hg =>
    EnSl.one ((hg.block W.heap.size (by show _ < ((W.alloc (.cells #[.int .i64 e.t, .int .i64 e.k, .string e.d, .int .u16 e.j.ov, .int .u16 e.j.ox, .int .u16 e.j.ol, .int .i64 e.j.oe, .int .i64 e.j.ok, .int .u16 e.j.nv, .int .u16 e.j.nx, .int .u16 e.j.nl, .int .i64 e.j.ne, .int .i64 e.j.nk, .bool e.j.two] 47)).alloc (.cells #[] 47)).heap.size; simp; omega) (by simp)).trans (heap_prev _ (heap_last W (.cells #[.int .i64 e.t, .int .i64 e.k, .string e.d, .int .u16 e.j.ov, .int .u16 e.j.ox, .int .u16 e.j.ol, .int .i64 e.j.oe, .int .i64 e.j.ok, .int .u16 e.j.nv, .int .u16 e.j.nx, .int .u16 e.j.nl, .int .i64 e.j.ne, .int .i64 e.j.nk, .bool e.j.two] 47))))
  have HKa : Hid (∀ w8, (W.alloc (.cells #[] 47)).drew.grownBy w8 (some W.heap.size) → w8.heap[A + 1]? = some (.cells #[.int .i64 e.t, .int .i64 e.k, .string e.d, .int .u16 e.j.ov, .int .u16 e.j.ox, .int .u16 e.j.ol, .int .i64 e.j.oe, .int .i64 e.j.ok, .int .u16 e.j.nv, .int .u16 e.j.nx, .int .u16 e.j.nl, .int .i64 e.j.ne, .int .i64 e.j.nk, .bool e.j.two] 47 (0, 0))) := fun w8 hg => (hg.block (A + 1) (by show _ < (W.alloc (.cells #[] 47)).heap.size; simp; omega) (by simp; omega)).trans (heap_prev _ hE2)
  have HKb : Hid (∀ w8, ((W.alloc (.cells #[] 47)).alloc (.cells #[.int .i64 e.t, .int .i64 e.k, .string e.d, .int .u16 e.j.ov, .int .u16 e.j.ox, .int .u16 e.j.ol, .int .i64 e.j.oe, .int .i64 e.j.ok, .int .u16 e.j.nv, .int .u16 e.j.nx, .int .u16 e.j.nl, .int .i64 e.j.ne, .int .i64 e.j.nk, .bool e.j.two] 47)).drew.grownBy w8 (some W.heap.size) → w8.heap[A + 1]? = some (.cells #[.int .i64 e.t, .int .i64 e.k, .string e.d, .int .u16 e.j.ov, .int .u16 e.j.ox, .int .u16 e.j.ol, .int .i64 e.j.oe, .int .i64 e.j.ok, .int .u16 e.j.nv, .int .u16 e.j.nx, .int .u16 e.j.nl, .int .i64 e.j.ne, .int .i64 e.j.nk, .bool e.j.two] 47 (0, 0))) := fun w8 hg => (hg.block (A + 1) (by show _ < ((W.alloc (.cells #[] 47)).alloc (.cells #[.int .i64 e.t, .int .i64 e.k, .string e.d, .int .u16 e.j.ov, .int .u16 e.j.ox, .int .u16 e.j.ol, .int .i64 e.j.oe, .int .i64 e.j.ok, .int .u16 e.j.nv, .int .u16 e.j.nx, .int .u16 e.j.nl, .int .i64 e.j.ne, .int .i64 e.j.nk, .bool e.j.two] 47)).heap.size; simp; omega) (by simp; omega)).trans (heap_prev _ (heap_prev _ hE2))
  have HKc : Hid (∀ w8, ((W.alloc (.cells #[.int .i64 e.t, .int .i64 e.k, .string e.d, .int .u16 e.j.ov, .int .u16 e.j.ox, .int .u16 e.j.ol, .int .i64 e.j.oe, .int .i64 e.j.ok, .int .u16 e.j.nv, .int .u16 e.j.nx, .int .u16 e.j.nl, .int .i64 e.j.ne, .int .i64 e.j.nk, .bool e.j.two] 47)).alloc (.cells #[] 47)).drew.grownBy w8 (some (W.heap.size + 1)) → w8.heap[A + 1]? = some (.cells #[.int .i64 e.t, .int .i64 e.k, .string e.d, .int .u16 e.j.ov, .int .u16 e.j.ox, .int .u16 e.j.ol, .int .i64 e.j.oe, .int .i64 e.j.ok, .int .u16 e.j.nv, .int .u16 e.j.nx, .int .u16 e.j.nl, .int .i64 e.j.ne, .int .i64 e.j.nk, .bool e.j.two] 47 (0, 0))) := fun w8 hg => (hg.block (A + 1) (by show _ < ((W.alloc (.cells #[.int .i64 e.t, .int .i64 e.k, .string e.d, .int .u16 e.j.ov, .int .u16 e.j.ox, .int .u16 e.j.ol, .int .i64 e.j.oe, .int .i64 e.j.ok, .int .u16 e.j.nv, .int .u16 e.j.nx, .int .u16 e.j.nl, .int .i64 e.j.ne, .int .i64 e.j.nk, .bool e.j.two] 47)).alloc (.cells #[] 47)).heap.size; simp; omega) (by simp; omega)).trans (heap_prev _ (heap_prev _ hE2))
  clear hE2
  have HZa : Hid (W.heap.size ≤ (W.alloc (.cells #[] 47)).drew.heap.size) := by show _ ≤ (W.alloc (.cells #[] 47)).heap.size; simp
  have HZb : Hid (W.heap.size ≤ ((W.alloc (.cells #[] 47)).alloc (.cells #[.int .i64 e.t, .int .i64 e.k, .string e.d, .int .u16 e.j.ov, .int .u16 e.j.ox, .int .u16 e.j.ol, .int .i64 e.j.oe, .int .i64 e.j.ok, .int .u16 e.j.nv, .int .u16 e.j.nx, .int .u16 e.j.nl, .int .i64 e.j.ne, .int .i64 e.j.nk, .bool e.j.two] 47)).drew.heap.size) := by show _ ≤ ((W.alloc (.cells #[] 47)).alloc (.cells #[.int .i64 e.t, .int .i64 e.k, .string e.d, .int .u16 e.j.ov, .int .u16 e.j.ox, .int .u16 e.j.ol, .int .i64 e.j.oe, .int .i64 e.j.ok, .int .u16 e.j.nv, .int .u16 e.j.nx, .int .u16 e.j.nl, .int .i64 e.j.ne, .int .i64 e.j.nk, .bool e.j.two] 47)).heap.size; simp; omega
  have HZc : Hid (W.heap.size ≤ ((W.alloc (.cells #[.int .i64 e.t, .int .i64 e.k, .string e.d, .int .u16 e.j.ov, .int .u16 e.j.ox, .int .u16 e.j.ol, .int .i64 e.j.oe, .int .i64 e.j.ok, .int .u16 e.j.nv, .int .u16 e.j.nx, .int .u16 e.j.nl, .int .i64 e.j.ne, .int .i64 e.j.nk, .bool e.j.two] 47)).alloc (.cells #[] 47)).drew.heap.size) := by show _ ≤ ((W.alloc (.cells #[.int .i64 e.t, .int .i64 e.k, .string e.d, .int .u16 e.j.ov, .int .u16 e.j.ox, .int .u16 e.j.ol, .int .i64 e.j.oe, .int .i64 e.j.ok, .int .u16 e.j.nv, .int .u16 e.j.nx, .int .u16 e.j.nl, .int .i64 e.j.ne, .int .i64 e.j.nk, .bool e.j.two] 47)).alloc (.cells #[] 47)).heap.size; simp; omega
  have H63 : Hid (0 + l.es.length ≤ maxLen) := by show _ ≤ _; unfold maxLen; omega
  have HBY : Hid ((0 + l.es.length) * 88 ≤ 140737488355328) := by show _ ≤ _; omega
  have H63b : Hid (0 + l.es.length + 1 ≤ maxLen) := by show _ ≤ _; unfold maxLen; omega
  have HBYb : Hid ((0 + l.es.length + 1) * 88 ≤ 140737488355328) := by show _ ≤ _; omega
  clear e1 e2
  obtain ⟨L2, hL2⟩ : ∃ L2, l.es ++ [e] = L2 := ⟨_, rfl⟩
  have HL2 : Hid (L2.length = 0 + l.es.length + 1) := by show _ = _; rw [← hL2]; simp
  have HR2 : Hid ([] ++ entRow l.es ++ entRow [e] = entRow L2) := by show _ = _; rw [← hL2, entRow_app]; simp
  have HLP : Hid (pushL l e = ⟨l.b, l.bt, l.j, L2⟩) := by show _ = _; unfold pushL; rw [hL2]
  clear hL2
  have HL := Lib.hid (entC_one l.es)
  have HL1 := Lib.hid (entC_one [e])
  apply cutV (R := fun w' q cc => BoxW w A (A + 1 + 1) W.heap.size l p c w' ∧ w'.ownsRow W.heap.size 47 14 (.slice q L2.length cc) L2.length (entRow L2))
    (P := fun a b v q cc w' => K { tmps := #[.agg #[.int .i64 l.b, .int .i64 l.bt, .int .u16 l.j.ov, .int .u16 l.j.ox, .int .u16 l.j.ol, .int .i64 l.j.oe, .int .i64 l.j.ok, .int .u16 l.j.nv, .int .u16 l.j.nx, .int .u16 l.j.nl, .int .i64 l.j.ne, .int .i64 l.j.nk, .bool l.j.two, .slice p l.es.length c], .agg #[.int .i64 e.t, .int .i64 e.k, .string e.d, .int .u16 e.j.ov, .int .u16 e.j.ox, .int .u16 e.j.ol, .int .i64 e.j.oe, .int .i64 e.j.ok, .int .u16 e.j.nv, .int .u16 e.j.nx, .int .u16 e.j.nl, .int .i64 e.j.ne, .int .i64 e.j.nk, .bool e.j.two], .pointer (some ⟨A, 0, none⟩), .pointer (some ⟨A + 1, 0, none⟩), .pointer (some ⟨A + 1 + 1, 0, none⟩), .slice (some ⟨a, 0, none⟩) 0 0, .pointer (some ⟨A, 13, none⟩), .slice p l.es.length c, v, .agg #[.int .i64 e.t, .int .i64 e.k, .string e.d, .int .u16 e.j.ov, .int .u16 e.j.ox, .int .u16 e.j.ol, .int .i64 e.j.oe, .int .i64 e.j.ok, .int .u16 e.j.nv, .int .u16 e.j.nx, .int .u16 e.j.nl, .int .i64 e.j.ne, .int .i64 e.j.nk, .bool e.j.two], .slice (some ⟨b, 0, none⟩) 1 1, .slice q L2.length cc, .pointer (some ⟨A, 13, none⟩), undef], defers := [] } (w'.setCell ⟨A, 13, none⟩ (.slice q L2.length cc)))
  · intro h
    go_region_law ((first | (refine step_append_sl (by rfl) _ _ 28 (by rfl) W.heap.size 47 i0 (.agg #[.int .i64 0, .int .i64 0, .string ⟨#[]⟩, .int .u16 0, .int .u16 0, .int .u16 0, .int .i64 0, .int .i64 0, .int .u16 0, .int .u16 0, .int .u16 0, .int .i64 0, .int .i64 0, .bool false]) 14 88 Tryz.underlying28 hi hz0 hz1 hz2 rfl (by decide) _ 0 [] (by rfl) HOa.out _ _ l.es.length (entRow l.es) (by rfl) HSa.out HL.out H63.out HBY.out HZa.out ?_; intro v8 w8 hown8 hgr8; have HP8 := Lib.hid (HPa.out.grown hgr8 (fun k hk => (own_geL HOa.out k hk).1)); have HT8 := HTa.out w8 hgr8; have kE8 := block_cells (HKa.out w8 hgr8)) | (refine step_append_sl (by rfl) _ _ 28 (by rfl) W.heap.size 47 i0 (.agg #[.int .i64 0, .int .i64 0, .string ⟨#[]⟩, .int .u16 0, .int .u16 0, .int .u16 0, .int .i64 0, .int .i64 0, .int .u16 0, .int .u16 0, .int .u16 0, .int .i64 0, .int .i64 0, .bool false]) 14 88 Tryz.underlying28 hi hz0 hz1 hz2 rfl (by decide) _ 0 [] (by rfl) HOb.out _ _ l.es.length (entRow l.es) (by rfl) HSb.out HL.out H63.out HBY.out HZb.out ?_; intro v8 w8 hown8 hgr8; have HP8 := Lib.hid (HPb.out.grown hgr8 (fun k hk => (own_geL HOb.out k hk).1)); have HT8 := HTb.out w8 hgr8; have kE8 := block_cells (HKb.out w8 hgr8)) | (refine step_append_sl (by rfl) _ _ 28 (by rfl) W.heap.size 47 i0 (.agg #[.int .i64 0, .int .i64 0, .string ⟨#[]⟩, .int .u16 0, .int .u16 0, .int .u16 0, .int .i64 0, .int .i64 0, .int .u16 0, .int .u16 0, .int .u16 0, .int .i64 0, .int .i64 0, .bool false]) 14 88 Tryz.underlying28 hi hz0 hz1 hz2 rfl (by decide) _ 0 [] (by rfl) HOc.out _ _ l.es.length (entRow l.es) (by rfl) HSc.out HL.out H63.out HBY.out HZc.out ?_; intro v8 w8 hown8 hgr8; have HP8 := Lib.hid (HPc.out.grown hgr8 (fun k hk => (own_geL HOc.out k hk).1)); have HT8 := HTc.out w8 hgr8; have kE8 := block_cells (HKc.out w8 hgr8)) | (refine step_append_sl (by rfl) _ _ 28 (by rfl) W.heap.size 47 i0 (.agg #[.int .i64 0, .int .i64 0, .string ⟨#[]⟩, .int .u16 0, .int .u16 0, .int .u16 0, .int .i64 0, .int .i64 0, .int .u16 0, .int .u16 0, .int .u16 0, .int .i64 0, .int .i64 0, .bool false]) 14 88 Tryz.underlying28 hi hz0 hz1 hz2 rfl (by decide) v8 (0 + l.es.length) ([] ++ entRow l.es) (by rfl) (own_belowL hown8 (below_new w8 _ rfl) (Nat.le_refl _)) _ _ 1 (entRow [e]) (by rfl) (EnSl.one (heap_last w8 _)) HL1.out H63b.out HBYb.out (by have := HP8.out.s; simp; omega) ?_; intro v11 w11 hown11 hgr11; rw [HR2.out, ← HL2.out] at hown11; obtain ⟨q11, c11, rfl⟩ := own_slice hown11; have HP11 := Lib.hid ((HP8.out.alloc (.cells #[.int .i64 e.t, .int .i64 e.k, .string e.d, .int .u16 e.j.ov, .int .u16 e.j.ox, .int .u16 e.j.ol, .int .i64 e.j.oe, .int .i64 e.j.ok, .int .u16 e.j.nv, .int .u16 e.j.nx, .int .u16 e.j.nl, .int .i64 e.j.ne, .int .i64 e.j.nk, .bool e.j.two] 47)).grown hgr11 (fun k hk => (own_geL hown8 k hk).1)); have kA11 := block_cells HP11.out.a; have fA11 := block_free HP11.out.a) | (refine step_append_sl (by rfl) _ _ 28 (by rfl) W.heap.size 47 i0 (.agg #[.int .i64 0, .int .i64 0, .string ⟨#[]⟩, .int .u16 0, .int .u16 0, .int .u16 0, .int .i64 0, .int .i64 0, .int .u16 0, .int .u16 0, .int .u16 0, .int .i64 0, .int .i64 0, .bool false]) 14 88 Tryz.underlying28 hi hz0 hz1 hz2 rfl (by decide) v8 (0 + l.es.length) ([] ++ entRow l.es) (by rfl) hown8 _ _ 1 (entRow [e]) (by rfl) HT8 HL1.out H63b.out HBYb.out (by have := HP8.out.s; omega) ?_; intro v11 w11 hown11 hgr11; rw [HR2.out, ← HL2.out] at hown11; obtain ⟨q11, c11, rfl⟩ := own_slice hown11; have HP11 := Lib.hid (HP8.out.grown hgr11 (fun k hk => (own_geL hown8 k hk).1)); have kA11 := block_cells HP11.out.a; have fA11 := block_free HP11.out.a)))
    all_goals exact h _ _ v8 q11 c11 w11 ⟨HP11.out, hown11⟩
  intro a b v8 q11 c11 w11 hR
  obtain ⟨hp11, hown11⟩ := hR
  clear kA fA kE HPa HPb HPc HOa HOb HOc HSa HSb HSc HTa HTb HTc HKa HKb HKc
  obtain ⟨hb4, ho4⟩ := hp11.out (m := ⟨l.b, l.bt, l.j, L2⟩) (by omega) ⟨rfl, rfl, rfl⟩ hown11
  obtain ⟨W4, hW4⟩ : ∃ W4, w11.setCell ⟨A, 13, none⟩ (.slice q11 L2.length c11) = W4 := ⟨_, rfl⟩
  rw [hW4] at hb4 ho4 ⊢
  have H4 := Lib.hid (hb4.fin (by omega) ho4)
  have k4 := block_cells hb4.a
  have kZ := block_cells hb4.z
  have fZ := block_free hb4.z
  clear hb4 ho4 hW4 hown11 hp11
  go_wp2_with fail
  obtain ⟨W5, hW5⟩ : ∃ W5, put14 W4 (A + 1 + 1) (.int .i64 l.b) (.int .i64 l.bt) (.int .u16 l.j.ov) (.int .u16 l.j.ox) (.int .u16 l.j.ol) (.int .i64 l.j.oe) (.int .i64 l.j.ok) (.int .u16 l.j.nv) (.int .u16 l.j.nx) (.int .u16 l.j.nl) (.int .i64 l.j.ne) (.int .i64 l.j.nk) (.bool l.j.two) (.slice q11 L2.length c11) = W5 := ⟨_, rfl⟩
  have h4 := H4.out
  rw [hW5] at h4
  unfold put14 at hW5
  rw [hW5]
  obtain ⟨kF, hO, hBF⟩ := h4
  rw [HLP.out]
  refine bodyPost_ret (v := .agg #[.int .i64 l.b, .int .i64 l.bt, .int .u16 l.j.ov, .int .u16 l.j.ox, .int .u16 l.j.ol, .int .i64 l.j.oe, .int .i64 l.j.ok, .int .u16 l.j.nv, .int .u16 l.j.nx, .int .u16 l.j.nl, .int .i64 l.j.ne, .int .i64 l.j.nk, .bool l.j.two, .slice q11 L2.length c11]) ?_ rfl ⟨q11, c11, rfl, hO.mono (by rw [HEA.out]; omega), by rw [HEA.out]; exact hBF⟩
  simp [results, Tryz.results133, go_sem, kF]
end Go.Proofs.YtbnndbdnejfehaaGreatDoor
/- Hard: all that must last. -/
namespace Go.Proofs.YtbnndbdnejfehaaGreatDoor
open Go.ChangeShapes Go.WideShapes Go.ChangeAt Go.RowKit

/-- A range's core, and where its entries lie. -/
structure KpX where
  r : Int
  c : Co
  p : Option Addr
  k : Nat
def kpC (x : KpX) : List Value := [.int .i64 x.r, .int .i64 x.c.id, .int .i64 x.c.role, .int .i64 x.c.tm, .int .i64 x.c.vt, .int .i64 x.c.ld, .int .i64 x.c.wt, .int .i64 x.c.cm, .int .i64 x.c.sf, .int .i64 x.c.l.b, .int .i64 x.c.l.bt, .int .u16 x.c.l.j.ov, .int .u16 x.c.l.j.ox, .int .u16 x.c.l.j.ol, .int .i64 x.c.l.j.oe, .int .i64 x.c.l.j.ok, .int .u16 x.c.l.j.nv, .int .u16 x.c.l.j.nx, .int .u16 x.c.l.j.nl, .int .i64 x.c.l.j.ne, .int .i64 x.c.l.j.nk, .bool x.c.l.j.two, .slice x.p x.c.l.es.length x.k, .string x.c.sn, .int .u16 x.c.vs, .int .u16 x.c.hd, .int .i64 (x.c.nx 0), .int .i64 (x.c.nx 1), .int .i64 (x.c.nx 2), .int .i64 (x.c.nx 3), .int .i64 (x.c.nx 4), .int .i64 (x.c.nx 5), .int .i64 (x.c.nx 6), .int .i64 (x.c.nx 7), .int .i64 (x.c.nx 8), .int .i64 (x.c.nx 9), .int .i64 (x.c.mt 0), .int .i64 (x.c.mt 1), .int .i64 (x.c.mt 2), .int .i64 (x.c.mt 3), .int .i64 (x.c.mt 4), .int .i64 (x.c.mt 5), .int .i64 (x.c.mt 6), .int .i64 (x.c.mt 7), .int .i64 (x.c.mt 8), .int .i64 (x.c.mt 9)]
def KpAt (w : World) (q : Option Addr) (l : List KpX) : Prop := ∀ j, (hj : j < l.length) → ∃ g o, q = some ⟨g, o, none⟩ ∧ g < w.heap.size ∧ (∀ i, i < 46 → w.cell? ⟨g, o + j * 46 + i, none⟩ = (kpC l[j])[i]?) ∧ EnSl w (.slice l[j].p l[j].c.l.es.length l[j].k) l[j].c.l.es
theorem KpAt.keep {w w' : World} {q : Option Addr} {l : List KpX} (h : KpAt w q l) (hb : Below w.heap.size w w') : KpAt w' q l := fun j hj => by
  obtain ⟨g, o, e, hg, hc, he⟩ := h j hj
  exact ⟨g, o, e, Nat.lt_of_lt_of_le hg hb.size, fun i hi => (hb.cell (p := ⟨g, o + j * 46 + i, none⟩) hg).trans (hc i hi), he.keep hb (Nat.le_refl _)⟩
end Go.Proofs.YtbnndbdnejfehaaGreatDoor
/- Hard: the reference's Whole. -/
namespace Go.Proofs.YtbnndbdnejfehaaGreatDoor
open Go.ChangeShapes Go.WideShapes Go.ChangeAt Go.RowKit

/-- An append of a slice that may be none, in a region that draws its order. -/
theorem wp_append_any {P : Program} {w : World} {o : Oper} {a : Act} {K : Act → World → Prop} {Q : Exit → Act → World → Prop} (s x : Operand) (t : TypeId)
    (ho : o.op = .call { callee := .builtin .append, args := #[s, x], argTypes := #[t, t] })
    (base : Nat) (e : TypeId) (i : TypeInfo) (z : Value) (size bytes : Nat) (ht : P.underlying t = some (.slice e)) (hi : P.info? e = some i) (hz : i.zero = some z)
    (hsize : i.size = size) (hby : i.bytes = bytes) (hzs : z.cells.size = size) (hsz : 0 < size)
    (v : Value) (n : Nat) (xs : List Value) (hs : a.eval s = v) (hown : w.ownsRow base e size v n xs)
    (B : Nat) (u : Value) (m : Nat) (news : List Value) (hx : a.eval x = u) (hsl : Sl B w u size m news) (h1 : ∀ u ∈ news, u.oneCell' = true)
    (h63 : n + m ≤ maxLen) (hbytes : (n + m) * bytes ≤ 140737488355328) (hbase : base ≤ w.heap.size)
    (h : ∀ v' w', w'.ownsRow base e size v' (n + m) (xs ++ news) → w.grownBy w' v.ownBlock → (v'.ownBlock = v.ownBlock ∨ v'.ownBlock = some w.heap.size) → K (a.put o.dst v') w') : Oper.wp P o a w K Q := by
  by_cases hm : 0 < m
  · exact wp_append_row s x t ho base e i z size bytes ht hi hz hsize hby hzs hsz v n xs hs hown B u m news hx hsl hm h1 h63 hbytes hbase h
  · obtain ⟨hl, hc⟩ := hsl
    obtain rfl : m = 0 := by omega
    have hn : news = [] := List.eq_nil_of_length_eq_zero (by simpa using hl)
    subst hn
    have hk := h v w (by simpa using hown) ⟨rfl, rfl, rfl, Nat.le_refl _, fun _ _ _ => rfl⟩ (.inl rfl)
    rcases hc with ⟨rfl, -⟩ | ⟨ad, cap, rfl, _, _, hcell⟩
    · have hrun := run_append_owned_none (P := P) (w := w) base t o.type e i size ht hi v n xs hown
      unfold Oper.wp
      simp [execOp, ho, resolve, invoke, builtin, hs, hx, hrun, Result.andThen]
      exact hk
    · obtain ⟨v', w', hr, h2, h3, -, h5⟩ := run_append_own_at (P := P) (w := w) base t o.type e i z size bytes ht hi hz hsize hby hzs hsz v n xs hown ad 0 cap [] (by simp) (fun j u hu => by simp at hu) (fun u hu => by cases hu) h63 hbytes hbase
      unfold Oper.wp execOp
      simp only [ho, resolve, invoke, builtin, Sem.run_bind, Sem.run_pure, Result.andThen_ok, List.map_toArray, List.map_cons, List.map_nil, hs, hx, hr]
      exact h v' w' h2 h3 h5
end Go.Proofs.YtbnndbdnejfehaaGreatDoor
