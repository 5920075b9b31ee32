import Derived.Test.YtjaabakobpabjaaHtA
import Derived.Test.YtjaabakobpabjaaLogD
import Derived.Test.YtjaabakobpabjaaLogM
import Derived.Test.YtjaabakobpabjaaHsA
/- Hard: the reference's entries up to a number. -/
namespace Go.Proofs.Ytjaabakobpabjaa
open Go.ChangeShapes Go.WideShapes Go.ChangeAt Go.RowKit

theorem entRow_oneU (e : Ent) : entRow [e] = entC e := by simp [entRow]
set_option maxRecDepth 100000 in
set_option maxHeartbeats 8000000 in
theorem upto_any (l : Lg) (p : Option Addr) (c : Nat) (k : Int) (w : World) (h0 : 0 ≤ l.b) (h1 : l.b ≤ 1152921504606846976) (hn : l.es.length ≤ 1000000) (hE : EnSl w (.slice p l.es.length c) l.es) :
    Calls Try.prog 64 #[.agg #[.int .i64 l.b, .int .i64 l.bt, .int .u16 l.j.ov, .int .u16 l.j.ox, .int .u16 l.j.ol, .int .i64 l.j.oe, .int .i64 l.j.ok, .int .u16 l.j.nv, .int .u16 l.j.nx, .int .u16 l.j.nl, .int .i64 l.j.ne, .int .i64 l.j.nk, .bool l.j.two, .slice p l.es.length c], .int .i64 k] w fun e w' => ∃ v, e = .returned v ∧ w'.ownsRow w.heap.size 85 14 v (l.es.take (k - l.b).toNat).length (entRow (l.es.take (k - l.b).toNat)) ∧ Below w.heap.size w w' := by
  obtain ⟨i0, hi0, hz0, hz1, hz2⟩ := info_parts Try.infoEn
  obtain ⟨W, hW⟩ : ∃ z : World, w.alloc (.cells #[.int .i64 l.b, .int .i64 l.bt, .int .u16 l.j.ov, .int .u16 l.j.ox, .int .u16 l.j.ol, .int .i64 l.j.oe, .int .i64 l.j.ok, .int .u16 l.j.nv, .int .u16 l.j.nx, .int .u16 l.j.nl, .int .i64 l.j.ne, .int .i64 l.j.nk, .bool l.j.two, .slice p l.es.length c] 45) = z := ⟨_, rfl⟩
  have hb : Below w.heap.size w W := by rw [← hW]; exact (Below.refl _ _).alloc (Nat.le_refl _) _
  have hA : W.heap[w.heap.size]? = some (.cells #[.int .i64 l.b, .int .i64 l.bt, .int .u16 l.j.ov, .int .u16 l.j.ox, .int .u16 l.j.ol, .int .i64 l.j.oe, .int .i64 l.j.ok, .int .u16 l.j.nv, .int .u16 l.j.nx, .int .u16 l.j.nl, .int .i64 l.j.ne, .int .i64 l.j.nk, .bool l.j.two, .slice p l.es.length c] 45 (0, 0)) := by rw [← hW]; exact heap_last w _
  have HB := Lib.hid hb; have HA := Lib.hid hA; have HE := Lib.hid hE; have HW := Lib.hid hW
  obtain ⟨A, eA⟩ : ∃ z, w.heap.size = z := ⟨_, rfl⟩
  have HEA := Lib.hid eA
  rw [eA] at HA
  clear hb hA hE hW eA
  go_enter Try.func64, Try.ntmps64
  obtain ⟨Q', hQ⟩ : ∃ Q', bodyPost Try.prog Try.f64 (fun e w' => ∃ v, e = .returned v ∧ w'.ownsRow w.heap.size 85 14 v (l.es.take (k - l.b).toNat).length (entRow (l.es.take (k - l.b).toNat)) ∧ Below w.heap.size w w') = Q' := ⟨_, rfl⟩
  have HQ : Hid (∀ (a : Act) (w' : World) (v : Value), a.tmps.getD 4 undef = v → a.defers = [] → w'.ownsRow w.heap.size 85 14 v (l.es.take (k - l.b).toNat).length (entRow (l.es.take (k - l.b).toNat)) → Below w.heap.size w w' → Q' .ret a w') := fun a w' v h6 hd hm hb => by
    rw [← hQ]; exact bodyPost_ret (v := v) (by rw [results_tmp rfl, h6]) hd ⟨v, rfl, hm, hb⟩
  rw [hQ]
  clear hQ
  go_upto_region 1 with fail
  rw [HW.out, HEA.out]
  have HO : Hid (W.ownsRow w.heap.size 85 14 (.slice none 0 0) (l.es.take 0).length (entRow (l.es.take 0)) ∧ W.heap[A]? = some (.cells #[.int .i64 l.b, .int .i64 l.bt, .int .u16 l.j.ov, .int .u16 l.j.ox, .int .u16 l.j.ol, .int .i64 l.j.oe, .int .i64 l.j.ok, .int .u16 l.j.nv, .int .u16 l.j.nx, .int .u16 l.j.nl, .int .i64 l.j.ne, .int .i64 l.j.nk, .bool l.j.two, .slice p l.es.length c] 45 (0, 0)) ∧ Below w.heap.size w W) := ⟨⟨rfl, .inl ⟨rfl, rfl⟩⟩, HA.out, HB.out⟩
  clear HW HB HA
  go_wp2_with fail
  go_loopw [5, 6] (fun u i wr => ∃ j : Nat, j ≤ l.es.length ∧ j ≤ (k - l.b).toNat ∧ i = .int .i64 j ∧ Hid (wr.ownsRow w.heap.size 85 14 u (l.es.take j).length (entRow (l.es.take j)) ∧ wr.heap[A]? = some (.cells #[.int .i64 l.b, .int .i64 l.bt, .int .u16 l.j.ov, .int .u16 l.j.ox, .int .u16 l.j.ol, .int .i64 l.j.oe, .int .i64 l.j.ok, .int .u16 l.j.nv, .int .u16 l.j.nx, .int .u16 l.j.nl, .int .i64 l.j.ne, .int .i64 l.j.nk, .bool l.j.two, .slice p l.es.length c] 45 (0, 0)) ∧ Below w.heap.size w wr)) (fun _ i _ => l.es.length - (intOf i).toNat)
  case atStart => exact ⟨0, Nat.zero_le _, Nat.zero_le _, rfl, HO⟩
  case round =>
    clear HO
    obtain ⟨j, hj, hjk, rfl, HO⟩ := hrel
    obtain ⟨wk, rfl⟩ : ∃ wk : World, wk = wr := ⟨_, rfl⟩
    obtain ⟨vk, rfl⟩ : ∃ vk : Value, vk = u5 := ⟨_, rfl⟩
    have kA := block_cells HO.out.2.1
    have hw1 : wrap64 (l.b + 1) = l.b + 1 := by unfold wrap64; omega
    have hw2 : wrap64 (l.b + 1 + (j : Int)) = l.b + 1 + (j : Int) := by unfold wrap64; omega
    by_cases hlt : j < l.es.length
    · have hd : decide ((j : Int) < (l.es.length : Int)) = true := by simp; omega
      by_cases hle : l.b + 1 + (j : Int) ≤ k
      · have hd2 : decide (l.b + 1 + (j : Int) ≤ k) = true := by simpa using hle
        obtain ⟨ga, oa, ca, hva, hga, hca⟩ := (HE.out.keep HO.out.2.2 (Nat.le_refl _)).at j hlt
        simp only [Value.slice.injEq] at hva
        obtain ⟨hp, -, -⟩ := hva
        subst hp
        obtain ⟨e, he⟩ : ∃ e, l.es[j] = e := ⟨_, rfl⟩
        rw [he] at hca
        have HRG := Lib.hid (range_of (n := 14) (cs := entC e) rfl hca)
        have HH := Lib.hid he
        have hbx : Below wk.heap.size wk (wk.alloc (.cells (entC e).toArray 85)) := (Below.refl _ _).alloc (Nat.le_refl _) _
        have HX1 := Lib.hid (own_keptC HO.out.1 hbx); have HX2 := Lib.hid (HO.out.2.2.trans (hbx.mono HO.out.2.2.size)); have HX3 := Lib.hid (below_block hbx (block_lt HO.out.2.1) HO.out.2.1)
        have HSx := Lib.hid (show Sl (wk.heap.size + 1) (wk.alloc (.cells (entC e).toArray 85)) (.slice (some ⟨wk.heap.size, 0, none⟩) 1 1) 14 1 (entC e) from ⟨rfl, .inr ⟨_, 1, rfl, Nat.le_refl _, by unfold maxLen; decide, fun _ => ⟨wk.heap.size, 0, rfl, Nat.lt_succ_self _, fun i _ => by rw [Nat.zero_add, block_cells (heap_last wk _), List.getElem?_toArray]⟩⟩⟩)
        have HLT := Lib.hid (show (l.es.take j).length = j by rw [List.length_take]; omega)
        have HL1 := Lib.hid (entRow_oneU e)
        clear hca he hbx HO
        go_wp2_with (first | (with_reducible refine wpList_load_mid (op := ⟨some 28, _, _, _, _, _⟩) rfl _ _ rfl ga (oa + j * 14) rfl (entC e) _ HRG.out Try.underlying85 rfl (by kernel_rfl) ?_) | (with_reducible refine wpList_slice_one (o := ⟨some 29, _, _, _, _, _⟩) rfl _ 85 _ rfl (entC e) 14 i0 (.agg #[.int .i64 0, .int .i64 0, .string ⟨#[]⟩, .int .u16 0, .int .u16 0, .int .u16 0, .int .i64 0, .int .i64 0, .int .u16 0, .int .u16 0, .int .u16 0, .int .i64 0, .int .i64 0, .bool false]) rfl (by kernel_rfl) (by decide) (by decide) Try.underlying43 hi0 hz0 hz1 ?_) | (at_builtin; go_loud (refine wpList_append_sl_at rfl _ _ 43 rfl w.heap.size 85 i0 (.agg #[.int .i64 0, .int .i64 0, .string ⟨#[]⟩, .int .u16 0, .int .u16 0, .int .u16 0, .int .i64 0, .int .i64 0, .int .u16 0, .int .u16 0, .int .u16 0, .int .i64 0, .int .i64 0, .bool false]) 14 88 Try.underlying43 hi0 hz0 hz1 hz2 rfl (by decide) vk (l.es.take j).length (entRow (l.es.take j)) rfl HX1.out _ _ 1 (entC e) rfl HSx.out (by rw [← HL1.out]; exact entC_one [e]) ?d1 ?d2 ?d3 ?_)))
        case d1 => rw [HLT.out]; unfold maxLen; omega
        case d2 => rw [HLT.out]; omega
        case d3 => exact HX2.out.size
        intro v4 w4 h2 h3 h4
        have HO2 : Hid (w4.ownsRow w.heap.size 85 14 v4 (l.es.take (j + 1)).length (entRow (l.es.take (j + 1))) ∧ w4.heap[A]? = some (.cells #[.int .i64 l.b, .int .i64 l.bt, .int .u16 l.j.ov, .int .u16 l.j.ox, .int .u16 l.j.ol, .int .i64 l.j.oe, .int .i64 l.j.ok, .int .u16 l.j.nv, .int .u16 l.j.nx, .int .u16 l.j.nl, .int .i64 l.j.ne, .int .i64 l.j.nk, .bool l.j.two, .slice (some ⟨ga, oa, none⟩) l.es.length c] 45 (0, 0)) ∧ Below w.heap.size w w4) := by
          refine ⟨?_, ?_, HX2.out.grown h3 HX2.out.size (fun b hb => (HX1.out.lt b hb).1)⟩
          · rw [List.take_succ_eq_append_getElem hlt, HH.out, List.length_append, entRow_app, HL1.out, HLT.out]; exact h2
          · exact (h3.block A (block_lt HX3.out) (by
              rcases own_other HX1.out HX3.out (by decide) with h | h
              · rw [h]; simp
              · exact fun e => h e.symm)).trans HX3.out
        clear h2 h3 h4 HX1 HX2 HX3 HSx HH HL1 HLT
        go_wp2_with fail
        go_roundw
        case rel => exact ⟨j + 1, by omega, by omega, by go_num, HO2⟩
        case measure => simp [intOf]; omega
      · have hd2 : decide (l.b + 1 + (j : Int) ≤ k) = false := by simpa using hle
        have HF : Hid (l.es.take (k - l.b).toNat = l.es.take j) := by show _ = _; congr 1; omega
        have HO1 := Lib.hid HO.out.1; have HO3 := Lib.hid HO.out.2.2
        clear HO
        go_wp2_with fail
        exact HQ.out _ _ vk rfl rfl (by rw [HF.out]; exact HO1.out) HO3.out
    · obtain rfl : j = l.es.length := by omega
      have hd : decide ((l.es.length : Int) < (l.es.length : Int)) = false := by simp
      have HF : Hid (l.es.take (k - l.b).toNat = l.es.take l.es.length) := by show _ = _; rw [List.take_of_length_le (Nat.le_refl _), List.take_of_length_le hjk]
      have HO1 := Lib.hid HO.out.1; have HO3 := Lib.hid HO.out.2.2
      clear HO
      go_wp2_with fail
      exact HQ.out _ _ vk rfl rfl (by rw [HF.out]; exact HO1.out) HO3.out
end Go.Proofs.Ytjaabakobpabjaa
/- Whole structs by value: a struct built of two parts, a slice of two structs, whatever their cells. -/
namespace Go.Proofs.Ytjaabakobpabjaa

theorem wpList_want {P : Program} {ops : Array Oper} {rest : List Oper} {o : Oper} {a : Act} {w : World} {Q : Exit → Act → World → Prop} (hw : Region.wanted o (yielded ops a.tmps) = true) (h : ∀ K : Act → World → Prop, (∀ a w, wpList P ops Q rest a w → K a w) → o.wp P a w K Q) : wpList P ops Q (o :: rest) a w :=
  wpList_step fun K hK => by simp only [hw, if_true]; exact h K hK
/-- A load of a whole struct, its guard true. -/
theorem wpList_load_g {P : Program} {ops : Array Oper} {rest : List Oper} {op : Oper} {a : Act} {w : World} {Q : Exit → Act → World → Prop} (hw : Region.wanted op (yielded ops a.tmps) = true) (ty : TypeId) (x : Operand) (ho : op.op = .load ty x)
    (b o : Nat) (hx : a.eval x = .pointer (some ⟨b, o, none⟩)) (cs : List Value) (d : TypeDesc) (hc : w.rangeAt b o cs)
    (hu : P.underlying ty = some d) (hd : d.isRow = true) (hi : (P.info? ty).map (·.size) = some cs.length)
    (h : wpList P ops Q rest (a.put op.dst (.agg cs.toArray)) w) : wpList P ops Q (op :: rest) a w :=
  wpList_want hw fun _ hK => wp_load_mid ty x ho b o hx cs d hc hu hd hi (hK _ _ h)
end Go.Proofs.Ytjaabakobpabjaa
