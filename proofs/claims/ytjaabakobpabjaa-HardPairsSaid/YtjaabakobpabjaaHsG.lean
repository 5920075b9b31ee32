/- Hard: package hard's Build. -/
import Derived.Test.YtjaabakobpabjaaHsF
namespace Go.Proofs.Ytjaabakobpabjaa
open Go.ChangeShapes Go.WideShapes Go.ChangeAt Go.RowKit

def jnL (j : Jn) : List Value := [.int .u16 j.ov, .int .u16 j.ox, .int .u16 j.ol, .int .i64 j.oe, .int .i64 j.ok, .int .u16 j.nv, .int .u16 j.nx, .int .u16 j.nl, .int .i64 j.ne, .int .i64 j.nk, .bool j.two]
/-- A list of joints. -/
def JnAt (w : World) (q : Option Addr) (js : List Jn) : Prop := ∀ k, (hk : k < js.length) → ∃ g o, q = some ⟨g, o, none⟩ ∧ g < w.heap.size ∧ ∀ i, i < 11 → w.cell? ⟨g, o + k * 11 + i, none⟩ = (jnL js[k])[i]?
/-- A record, and where its bytes lie. -/
structure RcX where
  p : Option Addr
  c : Nat
  xs : List Int
def RcAt (B : Nat) (w : World) (q : Option Addr) (L : List RcX) : Prop := ∀ k, (hk : k < L.length) → ∃ g o, q = some ⟨g, o, none⟩ ∧ g < B ∧ w.cell? ⟨g, o + k, none⟩ = some (.slice L[k].p L[k].xs.length L[k].c) ∧ Sl B w (.slice L[k].p L[k].xs.length L[k].c) 1 L[k].xs.length (byt L[k].xs)
theorem JnAt.keep {w w' : World} {q : Option Addr} {js : List Jn} (h : JnAt w q js) (hb : Below w.heap.size w w') : JnAt w' q js := fun k hk => by
  obtain ⟨g, o, e, hg, hc⟩ := h k hk
  exact ⟨g, o, e, Nat.lt_of_lt_of_le hg hb.size, fun i hi => (hb.cell (p := ⟨g, o + k * 11 + i, none⟩) hg).trans (hc i hi)⟩
theorem RcAt.keep {B : Nat} {w w' : World} {q : Option Addr} {L : List RcX} (h : RcAt B w q L) (hb : Below B w w') : RcAt B w' q L := fun k hk => by
  obtain ⟨g, o, e, hg, hc, hs⟩ := h k hk
  exact ⟨g, o, e, hg, (hb.cell (p := ⟨g, o + k, none⟩) hg).trans hc, hs.keep hb⟩
def BldEnd (w : World) (o : Option (Int × List Co)) (e : Ending) (w' : World) : Prop :=
  Below w.heap.size w w' ∧ match o with
    | none => e = .returned (.tuple #[.int .i64 0, .slice none 0 0, .int .i64 9])
    | some (life, cs) => ∃ v l, e = .returned (.tuple #[.int .i64 life, v, .int .i64 0]) ∧ l.map CoX.c = cs.map endCo ∧ CsAt w.heap.size w' v l
theorem Try.infoCo : (Try.prog.info? 48).map (fun i => (i.zero, i.size, i.bytes)) = some (some (.agg #[.int .i64 0, .int .i64 0, .int .i64 0, .int .i64 0, .int .i64 0, .int .i64 0, .int .i64 0, .int .i64 0, .int .i64 0, .int .i64 0, .int .u16 0, .int .u16 0, .int .u16 0, .int .i64 0, .int .i64 0, .int .u16 0, .int .u16 0, .int .u16 0, .int .i64 0, .int .i64 0, .bool false, .slice none 0 0, .string ⟨#[]⟩, .int .u16 0, .int .u16 0, .int .i64 0, .int .i64 0, .int .i64 0, .int .i64 0, .int .i64 0, .int .i64 0, .int .i64 0, .int .i64 0, .int .i64 0, .int .i64 0, .int .i64 0, .int .i64 0, .int .i64 0, .int .i64 0, .int .i64 0, .int .i64 0, .int .i64 0, .int .i64 0, .int .i64 0, .int .i64 0]), 45, 344) := by kernel_rfl
theorem sl_rows {w : World} {g : Nat} {t : TypeId} {c : Array Value} (h : w.heap[g]? = some (.cells c t (0, 0))) (cs : List Value) (hc : c = cs.toArray) : Sl (g + 1) w (.slice (some ⟨g, 0, none⟩) 1 1) cs.length 1 cs :=
  ⟨(Nat.one_mul _).symm, .inr ⟨_, 1, rfl, Nat.le_refl _, by unfold maxLen; decide, fun _ => ⟨g, 0, rfl, Nat.lt_succ_self _, fun j _ => by
    rw [Nat.zero_add, block_cells h, hc, List.getElem?_toArray]⟩⟩⟩
theorem coL_one (c : Co) (p : Option Addr) (k : Nat) : ∀ u ∈ coL c p k, u.oneCell' = true := List.all_eq_true.1 (show (coL c p k).all (·.oneCell') = true from rfl)
theorem CsAt.app {base : Nat} {w w' : World} {v v' : Value} {l : List CoX} {x : CoX} (h : CsAt base w v l) (hx : CoOwn base w x) (h2 : w'.ownsRow base 48 45 v' (l.length + 1) (coRow l ++ x.v)) (h3 : w.grownBy w' v.ownBlock) : CsAt base w' v' (l ++ [x]) := by
  refine ⟨?_, fun y hy => ?_⟩
  · rw [List.length_append, show coRow (l ++ [x]) = coRow l ++ x.v by simp [coRow]]; exact h2
  · rcases List.mem_append.1 hy with hy | hy
    · exact (h.en y hy).kept h3 (own_apartH (h.en y hy) h.own (by decide))
    · rw [List.mem_singleton] at hy; rw [hy]; exact hx.kept h3 (own_apartH hx h.own (by decide))
theorem CoOwn.new (base : Nat) (w : World) (id : Int) (j : Jn) : CoOwn base w ⟨newCo id j, none, 0⟩ := ⟨rfl, .inl ⟨rfl, rfl⟩⟩
theorem CsAt.nil (base : Nat) (w : World) : CsAt base w (.slice none 0 0) [] := ⟨⟨rfl, .inl ⟨rfl, rfl⟩⟩, fun x hx => by cases hx⟩
theorem bldStep_life {s : Int × List Co} {t ys : List Int} {n : Int} {b : Bool} (h : rdNw t false = (n, ys, b)) : bldStep (some s) (76 :: t) = if (!b && ys.isEmpty) = true then some (n, s.2) else none := by
  obtain ⟨life, cs⟩ := s
  unfold bldStep
  simp only [if_true, h]
  cases b <;> cases ys <;> simp
theorem bldStep_bad {s : Int × List Co} {a : Int} {t ys : List Int} {n : Int} {b : Bool} (h : rdNw t false = (n, ys, b)) (ha : a ≠ 76) (hb : b = true ∨ n < 0 ∨ (s.2.length : Int) ≤ n) : bldStep (some s) (a :: t) = none := by
  obtain ⟨life, cs⟩ := s
  unfold bldStep
  simp only [h, if_neg ha]
  rw [if_pos hb]
theorem bldStep_say {s : Int × List Co} {a : Int} {t ys : List Int} {n : Nat} (h : rdNw t false = ((n : Int), ys, false)) (ha : a ≠ 76) (hn : n < s.2.length) : bldStep (some s) (a :: t) = (sayB a ys).map fun rc => (s.1, s.2.set n (apRc s.2[n] rc)) := by
  obtain ⟨life, cs⟩ := s
  unfold bldStep
  simp only [h, if_neg ha]
  have hc : ¬ (False ∨ (n : Int) < 0 ∨ (cs.length : Int) ≤ n) := by
    dsimp only at hn
    rintro (h | h | h)
    · exact h
    · omega
    · omega
  simp only [Bool.false_eq_true]
  rw [if_neg hc, Int.toNat_natCast, List.getElem?_eq_getElem hn]
  cases sayB a ys <;> rfl
theorem bld_next {id : Int} {js : List Jn} {R : List (List Int)} {k : Nat} (hk : k < R.length) {s : Option (Int × List Co)} (h : (R.take k).foldl bldStep (some (0, js.map (newCo id))) = s) : (R.take (k + 1)).foldl bldStep (some (0, js.map (newCo id))) = bldStep s R[k] := by
  rw [List.take_succ_eq_append_getElem hk, List.foldl_append, h]; rfl
theorem bld_fail {id : Int} {js : List Jn} {R : List (List Int)} {k : Nat} (hk : k < R.length) {s : Option (Int × List Co)} (h : (R.take k).foldl bldStep (some (0, js.map (newCo id))) = s) (hs : bldStep s R[k] = none) : bld id js R = none := by
  unfold bld
  conv => lhs; rw [← List.take_append_drop (k + 1) R]
  rw [List.foldl_append, bld_next hk h, hs, bld_none]
def endX (x : CoX) : CoX := ⟨endCo x.c, x.p, x.k⟩
def endL (l : List CoX) (k : Nat) : List CoX := (l.take k).map endX ++ l.drop k
theorem endL_len (l : List CoX) (k : Nat) : (endL l k).length = l.length := by unfold endL; rw [List.length_append, List.length_map, List.length_take, List.length_drop]; omega
theorem endL_at (l : List CoX) {k : Nat} (h : k < l.length) : (endL l k)[k]'(by rw [endL_len]; exact h) = l[k] := by
  unfold endL
  rw [List.getElem_append_right (by rw [List.length_map, List.length_take]; omega)]
  simp [Nat.min_eq_left (Nat.le_of_lt h)]
theorem endL_next (l : List CoX) {k : Nat} (h : k < l.length) : (endL l k).set k (endX l[k]) = endL l (k + 1) := by
  unfold endL
  have hk : ((l.take k).map endX).length = k := by rw [List.length_map, List.length_take]; omega
  rw [List.set_append_right _ _ (by omega), hk, Nat.sub_self, List.drop_eq_getElem_cons h, List.set_cons_zero, List.take_succ_eq_append_getElem h, List.map_append, List.append_assoc]
  rfl
theorem endL_all (l : List CoX) : (endL l l.length).map CoX.c = (l.map CoX.c).map endCo := by
  unfold endL
  rw [List.take_of_length_le (Nat.le_refl _), List.drop_of_length_le (Nat.le_refl _), List.append_nil, List.map_map, List.map_map]
  rfl
/-- How great cores are that records have built. -/
def LInv (k : Nat) (l : List CoX) : Prop := ∀ x ∈ l, 0 ≤ x.c.l.b ∧ x.c.l.b ≤ 1125899906842624 ∧ x.c.l.es.length ≤ k
theorem LInv.fit {k : Nat} {l : List CoX} (h : LInv k l) (hk : k ≤ 100000) {x : CoX} (hx : x ∈ l) : LgFit x.c.l := ⟨(h x hx).1, by have := (h x hx).2.1; omega, by have := (h x hx).2.2; omega⟩
theorem LInv.up {k : Nat} {l : List CoX} (h : LInv k l) : LInv (k + 1) l := fun x hx => ⟨(h x hx).1, (h x hx).2.1, by have := (h x hx).2.2; omega⟩
theorem sayB_en {xs : List Int} (ho : Oct xs) {b bt : Int} {j : JoX} {s : ByteArray} {a : Int} (h : sayB a xs = some (.sn b bt j s)) : CnV b := by
  unfold sayB at h
  split at h
  · unfold allR at h; split at h <;> simp at h
  · split at h
    · unfold allR at h
      split at h
      · rename_i hr
        simp only [Option.some.injEq, Rc.sn.injEq] at h
        have := ((rd2_ok hrC_ok (rd2_ok hrC_ok (rd2_ok hrJ_ok rdTw_ok))).sound xs (snB xs false).1 [] ho (by show snB xs false = _; rw [← hr])).1.1
        rw [h.1] at this; exact this
      · simp at h
    · split at h
      · unfold allR at h; split at h <;> simp at h
      · split at h
        · unfold allR at h; split at h <;> simp at h
        · simp at h
theorem snL_len (l : Lg) (b bt : Int) (j : Jn) : (snL l b bt j).es.length ≤ l.es.length := by
  unfold snL
  dsimp only
  split
  · unfold compactL
    split
    · rw [List.length_drop]; omega
    · simp
  · simp
theorem LInv.say {k : Nat} {l : List CoX} (h : LInv k l) {n : Nat} (hn : n < l.length) {a : Int} {xs : List Int} (ho : Oct xs) {rc : Rc} (hs : sayB a xs = some rc) {y : CoX} (hy : y.c = apRc l[n].c rc) : LInv (k + 1) (l.set n y) := fun x hx => by
  rcases List.mem_or_eq_of_mem_set hx with hx | rfl
  · exact h.up x hx
  · have h0 := h _ (List.getElem_mem hn)
    rw [hy]
    cases rc with
    | hd tm vt => exact ⟨h0.1, h0.2.1, by have := h0.2.2; show _ ≤ k + 1; exact Nat.le_succ_of_le this⟩
    | sn b bt j s =>
      have hb := sayB_en ho hs
      exact ⟨hb.1, hb.2, by have := snL_len l[n].c.l b bt (jnX j); have := h0.2.2; show (snL l[n].c.l b bt (jnX j)).es.length ≤ k + 1; omega⟩
    | en i e =>
      unfold apRc
      dsimp only
      split
      · exact ⟨h0.1, h0.2.1, by show (_ ++ [e]).length ≤ _; rw [List.length_append, List.length_take]; have := h0.2.2; simp only [List.length_singleton]; omega⟩
      · exact ⟨h0.1, h0.2.1, by have := h0.2.2; omega⟩
    | ct i => exact ⟨h0.1, h0.2.1, by show (List.take _ _).length ≤ _; rw [List.length_take]; have := h0.2.2; omega⟩
set_option maxRecDepth 100000 in
set_option maxHeartbeats 16000000 in
theorem hbuild_any (id : Int) (js : List Jn) (q : Option Addr) (cq : Nat) (L : List RcX) (qr : Option Addr) (cr : Nat) (w : World) (hj : JnAt w q js) (hr : RcAt w.heap.size w qr L) (ho : ∀ r ∈ L, Oct r.xs ∧ (r.xs.length : Int) ≤ 140737488300000) (hjl : js.length ≤ 1000) (hLl : L.length ≤ 100000) :
    Calls Try.prog 9 #[.int .i64 id, .slice q js.length cq, .slice qr L.length cr] w (BldEnd w (bld id js (L.map RcX.xs))) := by
  obtain ⟨i0, hi0, hz0, hz1, hz2⟩ := info_parts Try.infoCo
  have HJ := Lib.hid hj; have HR := Lib.hid hr; have HO := Lib.hid ho
  clear hj hr ho
  go_enter Try.func9, Try.ntmps9
  obtain ⟨Q', hQ⟩ : ∃ Q', bodyPost Try.prog Try.f9 (BldEnd w (bld id js (L.map RcX.xs))) = Q' := ⟨_, rfl⟩
  have HQN : Hid (∀ (a : Act) (w' : World), a.tmps.getD 6 undef = .int .i64 0 → a.tmps.getD 7 undef = .slice none 0 0 → a.tmps.getD 8 undef = .int .i64 9 → a.defers = [] → bld id js (L.map RcX.xs) = none → Below w.heap.size w w' → Q' .ret a w') := fun a w' h6 h7 h8 hd hm hb => by
    rw [← hQ]; exact bodyPost_ret (v := .tuple #[.int .i64 0, .slice none 0 0, .int .i64 9]) (by rw [results_tmp3 rfl, h6, h7, h8]) hd ⟨hb, by rw [hm]⟩
  have HQY : Hid (∀ (a : Act) (w' : World) (life : Int) (v : Value) (cs : List Co) (l : List CoX), a.tmps.getD 6 undef = .int .i64 life → a.tmps.getD 7 undef = v → a.tmps.getD 8 undef = .int .i64 0 → a.defers = [] → bld id js (L.map RcX.xs) = some (life, cs) → l.map CoX.c = cs.map endCo → CsAt w.heap.size w' v l → Below w.heap.size w w' → Q' .ret a w') := fun a w' life v cs l h6 h7 h8 hd hm hc hl hb => by
    rw [← hQ]; exact bodyPost_ret (v := .tuple #[.int .i64 life, v, .int .i64 0]) (by rw [results_tmp3 rfl, h6, h7, h8]) hd ⟨hb, by rw [hm]; exact ⟨v, l, rfl, hc, hl⟩⟩
  rw [hQ]
  clear hQ
  have HS : Hid (∃ l : List CoX, l.map CoX.c = (js.take 0).map (newCo id) ∧ CsAt w.heap.size w (.slice none 0 0) l ∧ Below w.heap.size w w) := ⟨[], rfl, CsAt.nil _ _, Below.refl _ _⟩
  go_wp2_with fail
  go_loopw [7, 18] (fun u i wr => ∃ k : Nat, k ≤ js.length ∧ i = .int .i64 k ∧ Hid (∃ l : List CoX, l.map CoX.c = (js.take k).map (newCo id) ∧ CsAt w.heap.size wr u l ∧ Below w.heap.size w wr)) (fun _ i _ => js.length - (intOf i).toNat)
  case atStart => exact ⟨0, Nat.zero_le _, rfl, HS⟩
  case round =>
    clear HS
    obtain ⟨k, hk, rfl, HS⟩ := hrel
    obtain ⟨wk, rfl⟩ : ∃ wk : World, wk = wr := ⟨_, rfl⟩
    obtain ⟨vk, rfl⟩ : ∃ vk : Value, vk = u7 := ⟨_, rfl⟩
    by_cases hlt : k < js.length
    · have hd : decide ((k : Int) < (js.length : Int)) = true := by simp; omega
      obtain ⟨l, hl1, hl2, hl3⟩ := HS.out
      obtain ⟨g, o, rfl, hg, hc⟩ := HJ.out k hlt
      obtain ⟨j, hj⟩ : ∃ j, js[k] = j := ⟨_, rfl⟩
      rw [hj] at hc
      have hll : l.length = k := by have := congrArg List.length hl1; simpa [List.length_take, Nat.min_eq_left (Nat.le_of_lt hlt)] using this
      have HRG := Lib.hid (range_of (n := 11) (cs := jnL j) rfl (fun i hi => (hl3.cell (p := ⟨g, o + k * 11 + i, none⟩) hg).trans (hc i hi)))
      have HL := Lib.hid hl2; have HB := Lib.hid hl3; have HC := Lib.hid hl1; have HJJ := Lib.hid hj
      have HLL := Lib.hid hll
      clear hc hl1 hl2 hl3 HS hj hll
      go_upto_region 4 with (first | (with_reducible refine wpList_load_mid (op := ⟨some 21, _, _, _, _, _⟩) rfl _ _ rfl g (o + k * 11) rfl (jnL j) _ HRG.out Try.underlying42 rfl (by kernel_rfl) ?_) | (with_reducible refine wpList_store_new (op := ⟨none, .store 42 _ _, _, _, _, _⟩) rfl _ _ _ rfl _ (jnL j).toArray rfl rfl (by kernel_rfl) rfl (one_all rfl) ?_))
      have b2 : Below wk.heap.size wk (wk.alloc (.cells (jnL j).toArray 42)) := (Below.refl _ _).alloc (Nat.le_refl _) _
      have hX := heap_last wk (.cells (jnL j).toArray 42)
      obtain ⟨w2, hw⟩ : ∃ z : World, wk.alloc (.cells (jnL j).toArray 42) = z := ⟨_, rfl⟩
      rw [hw] at b2 hX ⊢
      obtain ⟨X, eX⟩ : ∃ z, wk.heap.size = z := ⟨_, rfl⟩
      (try rw [eX])
      rw [eX] at hX
      have HRX := Lib.hid (show w2.rangeAt X 0 (jnL j) from range_of (n := 11) rfl (fun i _ => by rw [Nat.zero_add]; exact (block_cells hX i).trans (List.getElem?_toArray ..)))
      have HL2 := Lib.hid (HL.out.keep b2); have HB2 := Lib.hid (HB.out.trans (b2.mono HB.out.size))
      have HCN := Lib.hid (show Calls Try.prog 28 #[.int .i64 id, .agg (jnL j).toArray] w2 _ from hcnew_any id j w2)
      clear hw b2 hX eX HL HB HRG
      go_wp2_with (with_reducible refine wpList_load_mid (op := ⟨some 24, _, _, _, _, _⟩) rfl _ _ rfl X 0 rfl (jnL j) _ HRX.out Try.underlying42 rfl (by kernel_rfl) ?_)
      refine HCN.out.mono ?_; rintro e w3 ⟨rfl, hb3⟩
      have HL3 := Lib.hid (HL2.out.keep hb3); have HB3 := Lib.hid (HB2.out.trans (hb3.mono HB2.out.size))
      clear hb3 HCN HRX HL2 HB2
      have hbx : Below w3.heap.size w3 (w3.alloc (.cells (coL (newCo id j) none 0).toArray 48)) := (Below.refl _ _).alloc (Nat.le_refl _) _
      have HLx := Lib.hid (HL3.out.keep hbx); have HBx := Lib.hid (HB3.out.trans (hbx.mono HB3.out.size))
      have HSx := Lib.hid (sl_rows (heap_last w3 (.cells (coL (newCo id j) none 0).toArray 48)) (coL (newCo id j) none 0) rfl)
      clear hbx HL3 HB3
      go_wp2_with (first | (with_reducible refine wpList_slice_one (o := ⟨some 26, _, _, _, _, _⟩) rfl _ 48 _ rfl (coL (newCo id j) none 0) 45 i0 (.agg #[.int .i64 0, .int .i64 0, .int .i64 0, .int .i64 0, .int .i64 0, .int .i64 0, .int .i64 0, .int .i64 0, .int .i64 0, .int .i64 0, .int .u16 0, .int .u16 0, .int .u16 0, .int .i64 0, .int .i64 0, .int .u16 0, .int .u16 0, .int .u16 0, .int .i64 0, .int .i64 0, .bool false, .slice none 0 0, .string ⟨#[]⟩, .int .u16 0, .int .u16 0, .int .i64 0, .int .i64 0, .int .i64 0, .int .i64 0, .int .i64 0, .int .i64 0, .int .i64 0, .int .i64 0, .int .i64 0, .int .i64 0, .int .i64 0, .int .i64 0, .int .i64 0, .int .i64 0, .int .i64 0, .int .i64 0, .int .i64 0, .int .i64 0, .int .i64 0, .int .i64 0]) rfl (by kernel_rfl) (by decide) (by decide) Try.underlying27 hi0 hz0 hz1 ?_) | (at_builtin; go_loud (refine wpList_append_sl_at rfl _ _ 27 rfl w.heap.size 48 i0 (.agg #[.int .i64 0, .int .i64 0, .int .i64 0, .int .i64 0, .int .i64 0, .int .i64 0, .int .i64 0, .int .i64 0, .int .i64 0, .int .i64 0, .int .u16 0, .int .u16 0, .int .u16 0, .int .i64 0, .int .i64 0, .int .u16 0, .int .u16 0, .int .u16 0, .int .i64 0, .int .i64 0, .bool false, .slice none 0 0, .string ⟨#[]⟩, .int .u16 0, .int .u16 0, .int .i64 0, .int .i64 0, .int .i64 0, .int .i64 0, .int .i64 0, .int .i64 0, .int .i64 0, .int .i64 0, .int .i64 0, .int .i64 0, .int .i64 0, .int .i64 0, .int .i64 0, .int .i64 0, .int .i64 0, .int .i64 0, .int .i64 0, .int .i64 0, .int .i64 0, .int .i64 0]) 45 344 Try.underlying27 hi0 hz0 hz1 hz2 rfl (by decide) vk l.length (coRow l) rfl HLx.out.own _ _ 1 (coL (newCo id j) none 0) rfl HSx.out (coL_one _ _ _) ?d1 ?d2 ?d3 ?_)))
      case d1 => have := HLL.out; unfold maxLen; omega
      case d2 => have := HLL.out; omega
      case d3 => exact HBx.out.size
      intro v4 w4 h2 h3 h4
      have HS2 : Hid (∃ l : List CoX, l.map CoX.c = (js.take (k + 1)).map (newCo id) ∧ CsAt w.heap.size w4 v4 l ∧ Below w.heap.size w w4) := ⟨l ++ [⟨newCo id j, none, 0⟩], by rw [List.map_append, HC.out, List.take_succ_eq_append_getElem hlt, List.map_append, HJJ.out]; rfl, HLx.out.app (CoOwn.new _ _ id j) h2 h3, HBx.out.grown h3 HBx.out.size (fun b hb => (HLx.out.own.lt b hb).1)⟩
      clear h2 h3 h4 HLx HBx HSx HC
      go_wp2_with fail
      go_roundw
      case rel => exact ⟨k + 1, by omega, by go_num, HS2⟩
      case measure => simp [intOf]; omega
    · obtain rfl : k = js.length := by omega
      have hd : decide ((js.length : Int) < (js.length : Int)) = false := by simp
      obtain ⟨l, hl1, hl2, hl3⟩ := HS.out
      rw [List.take_of_length_le (Nat.le_refl _)] at hl1
      have HS2 : Hid (∃ (life : Int) (l : List CoX), Value.int .i64 0 = .int .i64 life ∧ ((L.map RcX.xs).take 0).foldl bldStep (some (0, js.map (newCo id))) = some (life, l.map CoX.c) ∧ LInv 0 l ∧ l.length ≤ 1000 ∧ CsAt w.heap.size wk vk l ∧ Below w.heap.size w wk) := ⟨0, l, rfl, by rw [hl1]; rfl, fun x hx => by
        have hm : x.c ∈ l.map CoX.c := List.mem_map.2 ⟨x, hx, rfl⟩
        rw [hl1] at hm
        obtain ⟨j, -, hj⟩ := List.mem_map.1 hm
        rw [← hj]
        exact ⟨Int.le_refl 0, by show (0 : Int) ≤ 1125899906842624; decide, Nat.le_refl 0⟩, by have := congrArg List.length hl1; simp at this; omega, hl2, hl3⟩
      clear hl1 hl2 hl3 HS hd
      have hd : decide ((js.length : Int) < (js.length : Int)) = false := by simp
      go_wp2_with fail
      go_loopw [6, 7, 31] (fun lf u i wr => ∃ k : Nat, k ≤ L.length ∧ i = .int .i64 k ∧ Hid (∃ (life : Int) (l : List CoX), lf = .int .i64 life ∧ ((L.map RcX.xs).take k).foldl bldStep (some (0, js.map (newCo id))) = some (life, l.map CoX.c) ∧ LInv k l ∧ l.length ≤ 1000 ∧ CsAt w.heap.size wr u l ∧ Below w.heap.size w wr)) (fun _ _ i _ => L.length - (intOf i).toNat)
      case atStart => exact ⟨0, Nat.zero_le _, rfl, HS2⟩
      case round =>
        clear HS2
        obtain ⟨k, hk, rfl, HS⟩ := hrel
        obtain ⟨wk, rfl⟩ : ∃ wk : World, wk = wr := ⟨_, rfl⟩
        have hkm : ∀ _ : k < L.length, k < (L.map RcX.xs).length := fun h => by simpa using h
        by_cases hlt : k < L.length
        · have hkm := hkm hlt
          have hd : decide ((k : Int) < (L.length : Int)) = true := by simp; omega
          obtain ⟨life, l, rfl, hf0, hin, hln, hcs, hbw⟩ := HS.out
          obtain ⟨vk, rfl⟩ : ∃ vk : Value, vk = u7 := ⟨_, rfl⟩
          obtain ⟨g, o, rfl, hg, hc, hs⟩ := (HR.out.keep hbw) k hlt
          obtain ⟨r, hr⟩ : ∃ r, L[k] = r := ⟨_, rfl⟩
          rw [hr] at hc hs
          obtain ⟨hoct, hlen⟩ := HO.out r (by rw [← hr]; exact List.getElem_mem hlt)
          have hxk : (L.map RcX.xs)[k] = r.xs := by rw [List.getElem_map, hr]
          have HXK := Lib.hid hxk; have HF0 := Lib.hid hf0; have HIN := Lib.hid hin; have HCS := Lib.hid hcs; have HBW := Lib.hid hbw; have HSL := Lib.hid hs; have HOC := Lib.hid hoct; have HLE := Lib.hid hlen
          obtain ⟨⟨rp, rc, rxs⟩, rfl⟩ : ∃ z, z = r := ⟨_, rfl⟩
          dsimp only at hc HSL HOC HLE HXK
          clear hr hs hoct hlen hxk hf0 hin hcs hbw HS
          cases rxs with
          | nil =>
            have HST : Hid (bldStep (some (life, l.map CoX.c)) (L.map RcX.xs)[k] = none) := by show _ = _; rw [HXK.out]; rfl
            go_wp2_with fail
            exact HQN.out _ _ rfl rfl rfl rfl (bld_fail hkm HF0.out HST.out) HBW.out
          | cons a t =>
            obtain ⟨pa, ca, hv, h1, h2, -, hcell⟩ := HSL.out.form
            obtain ⟨rfl, -, rfl⟩ : pa = rp ∧ _ ∧ ca = rc := by simp only [Value.slice.injEq] at hv; exact ⟨hv.1.symm, hv.2.1, hv.2.2.symm⟩
            unfold maxLen at h2
            rw [List.length_cons] at h1 hc
            have h10 : (1 : Int) ≤ ((t.length + 1 : Nat) : Int) := by omega
            obtain ⟨bg, bo, rfl, hbg, hb0⟩ := hcell 0 (by simp)
            have hb1 : w.cell? ⟨bg, bo, none⟩ = some (.int .u8 a) := (HBW.out.cell (p := ⟨bg, bo, none⟩) hbg).symm.trans (by simpa [byt] using hb0)
            have HBB := Lib.hid (show ∀ w', Below w.heap.size w w' → w'.cell? ⟨bg, bo, none⟩ = some (.int .u8 a) from fun w' hb => (hb.cell (p := ⟨bg, bo, none⟩) hbg).trans hb1)
            have hd2 : ((t.length : Int) + 1 == 0) = false := by simp; omega
            have hd3 : (((t.length + 1 : Nat) : Int) == 0) = false := by simp; omega
            have HTO := Lib.hid (show Oct t from HOC.out.tail)
            have HTL := Lib.hid (show (t.length : Int) ≤ 140737488300000 by have := HLE.out; simp only [List.length_cons] at this; omega)
            clear hcell hb0 hb1 hv
            go_upto_region 11 with fail
            go_cut [13] from 38 to 41 (fun x wx => ∃ R, x = .pointer (some ⟨R, 0, none⟩) ∧ Hid (HrW w.heap.size wx R t false ∧ Below wk.heap.size wk wx))
            case first =>
              have hlt1 : t.length + 1 ≤ ca := h1
              have hD : ((a :: t).drop 1).take ((a :: t).length - 1) = t := by simp
              by_cases hc1 : ca = 1
              · have HC := Lib.hid hc1
                have hs := Sl.part0 (m := 1) (q := (a :: t).length - 1) (q' := (a :: t).length - 1) (c' := 0) HSL.out (by simp only [List.length_cons]; omega) (by have := HC.out; omega) rfl rfl
                rw [hD] at hs
                have HSS := Lib.hid hs
                have hc' : ¬ 1 < ca := by omega
                clear hs hc1 hD hc
                go_wp2_with fail
                go_meet
                case rel =>
                  have bA : Below wk.heap.size wk (wk.alloc (.cells #[.slice (some ⟨bg, bo, none⟩) t.length (ca - 1), .bool false] 71)) := (Below.refl _ _).alloc (Nat.le_refl _) _
                  exact ⟨_, rfl, ⟨⟨HBW.out.size, _, _, heap_last _ _, by
                    have h := HSS.out.keep (bA.mono HBW.out.size)
                    have e : ca - 1 = 0 := by have := HC.out; omega
                    rw [e]; rw [e] at h; exact h⟩, HTO.out, HTL.out⟩, bA⟩
              · have hs := Sl.part (m := 1) (q := (a :: t).length - 1) (q' := (a :: t).length - 1) HSL.out (by simp only [List.length_cons]; omega) rfl
                rw [hD, show Option.map (fun x : Addr => x.add 1) (some ⟨bg, bo, none⟩) = some ⟨bg, bo + 1, none⟩ by simp [Addr.add]] at hs
                have HSS := Lib.hid hs
                have hc' : 1 < ca := by omega
                clear hs hD hc
                go_wp2_with fail
                go_meet
                case rel =>
                  have bA : Below wk.heap.size wk (wk.alloc (.cells #[.slice (some ⟨bg, bo + 1, none⟩) t.length (ca - 1), .bool false] 71)) := (Below.refl _ _).alloc (Nat.le_refl _) _
                  exact ⟨_, rfl, ⟨⟨HBW.out.size, _, _, heap_last _ _, HSS.out.keep (bA.mono HBW.out.size)⟩, HTO.out, HTL.out⟩, bA⟩
            obtain ⟨R, rfl, hcx⟩ := hcut
            obtain ⟨w2, rfl⟩ : ∃ x : World, x = wc := ⟨_, rfl⟩
            obtain ⟨hr2, hb2⟩ := hcx.out
            have HR2 := Lib.hid hr2; have HB2 := Lib.hid (HBW.out.trans (hb2.mono HBW.out.size)); have HC2 := Lib.hid (HCS.out.keep hb2)
            clear hcx hr2 hb2
            have HN := Lib.hid (hrnum_any w.heap.size R t false w2 HR2.out)
            obtain ⟨⟨n, ys, b⟩, hrd⟩ : ∃ z, rdNw t false = z := ⟨_, rfl⟩
            have HRD := Lib.hid hrd
            have HOY := Lib.hid (show Oct ys from by have := rdNw_ok.oct t false HTO.out; rw [hrd] at this; exact this)
            rw [hrd] at HN
            clear hrd
            go_wp2_with fail
            refine HN.out.mono ?_; rintro e w3 ⟨rfl, h3, g3⟩
            dsimp only at h3 ⊢
            have HR3 := Lib.hid h3; have HB3 := Lib.hid (HB2.out.grown g3 HB2.out.size (fun k e => by cases e; exact HR2.out.r.1)); have HC3 := Lib.hid (HC2.out.rd HR2.out g3)
            clear h3 g3 HN
            have k0 : w3.cell? ⟨bg, bo, none⟩ = some (.int .u8 a) := HBB.out w3 HB3.out
            have HBL := Lib.hid (show True from trivial)
            clear HBL
            by_cases ha : a = 76
            · subst ha
              have HE := Lib.hid (hrends_any w.heap.size R ys b w3 HR3.out)
              have HST0 := Lib.hid (bldStep_life (s := (life, l.map CoX.c)) HRD.out)
              by_cases hE : (!b && ys.isEmpty) = true
              · rw [hE] at HE
                have HST : Hid (bldStep (some (life, l.map CoX.c)) (L.map RcX.xs)[k] = some (n, l.map CoX.c)) := by show _ = _; rw [HXK.out, HST0.out, if_pos hE]
                have HS2 : Hid (∃ (life : Int) (l : List CoX), Value.int .i64 n = .int .i64 life ∧ ((L.map RcX.xs).take (k + 1)).foldl bldStep (some (0, js.map (newCo id))) = some (life, l.map CoX.c) ∧ LInv (k + 1) l ∧ l.length ≤ 1000 ∧ CsAt w.heap.size w3 vk l ∧ Below w.heap.size w w3) := ⟨n, l, rfl, by rw [bld_next hkm HF0.out]; exact HST.out, HIN.out.up, hln, HC3.out, HB3.out⟩
                clear hE HST HST0
                go_wp2_with fail
                refine HE.out.mono ?_; rintro e w' ⟨rfl, rfl⟩
                clear HE
                go_wp2_with fail
                go_roundw
                case rel => exact ⟨k + 1, by omega, by go_num, HS2⟩
                case measure => simp [intOf]; omega
              · have hE2 : (!b && ys.isEmpty) = false := by simpa using hE
                rw [hE2] at HE
                have HST : Hid (bldStep (some (life, l.map CoX.c)) (L.map RcX.xs)[k] = none) := by show _ = _; rw [HXK.out, HST0.out, if_neg hE]
                clear hE hE2 HST0
                go_wp2_with fail
                refine HE.out.mono ?_; rintro e w' ⟨rfl, rfl⟩
                clear HE
                go_wp2_with fail
                exact HQN.out _ _ rfl rfl rfl rfl (bld_fail hkm HF0.out HST.out) HB3.out
            · have hd7 : (a == 76) = false := by simpa using ha
              obtain ⟨pv, cv, rfl⟩ := own_slice HC3.out.own
              have hcs : b = true ∨ (b = false ∧ n < 0) ∨ (b = false ∧ ¬ n < 0 ∧ (l.length : Int) ≤ n) ∨ (b = false ∧ ∃ m : Nat, n = m ∧ m < l.length) := by
                cases b
                · right
                  by_cases h1 : n < 0
                  · exact .inl ⟨rfl, h1⟩
                  · by_cases h2 : (l.length : Int) ≤ n
                    · exact .inr (.inl ⟨rfl, h1, h2⟩)
                    · exact .inr (.inr ⟨rfl, n.toNat, by omega, by omega⟩)
                · exact .inl rfl
              rcases hcs with rfl | ⟨rfl, hneg⟩ | ⟨rfl, hneg, hbig⟩ | ⟨rfl, m, rfl, hm⟩
              · have HST : Hid (bldStep (some (life, l.map CoX.c)) (L.map RcX.xs)[k] = none) := by show _ = _; rw [HXK.out]; exact bldStep_bad HRD.out ha (.inl rfl)
                go_upto_region 17 with fail
                obtain ⟨wd, ewd⟩ : ∃ z, w3.drew = z := ⟨_, rfl⟩
                have bd : Below w3.heap.size w3 wd := by rw [← ewd]; exact (Below.refl _ _).drew
                have HBD := Lib.hid (HB3.out.trans (bd.mono HB3.out.size))
                obtain ⟨_, rp, rcp, hRq, _⟩ := (HR3.out.keep bd (Nat.le_refl _)).r
                have kR := block_cells hRq
                refine wp_region_noPanic ?_
                refine wp_region_held_drew (S := fun w' => w' = wd) (by kernel_rfl) ewd (fun hHeld => ?_)
                rw [ewd] at hHeld ⊢
                clear ewd bd hRq k0
                refine wpAnyH_take (i := 0) (v := ?_) rfl (by kernel_rfl) (by kernel_rfl) (by kernel_rfl) (fun _ _ _ h => h) (Or.inl ⟨by rfl, ?_⟩) hHeld ?_
                rotate_left
                · (intro wz hSw; (try dsimp only at hSw); (try simp only [List.getElem_toArray, List.getElem_cons_zero]); go_simp; try with_reducible rfl)
                try simp only [List.getElem_toArray, List.getElem_cons_zero, Act.put, List.setIfInBounds_toArray, List.set_cons_zero, List.set_cons_succ]
                refine wpAnyH_take (i := 1) (v := ?_) rfl (by kernel_rfl) (by kernel_rfl) (by kernel_rfl) (fun _ _ _ h => h) (Or.inl ⟨by rfl, ?_⟩) hHeld ?_
                rotate_left
                · (intro wz hSw; (try dsimp only at hSw); (try simp only [List.getElem_toArray, List.getElem_cons_succ, List.getElem_cons_zero]); go_simp; try with_reducible rfl)
                try simp only [List.getElem_toArray, List.getElem_cons_succ, List.getElem_cons_zero, Act.put, List.setIfInBounds_toArray, List.set_cons_zero, List.set_cons_succ]
                refine wpAnyH_take (i := 2) (v := ?_) rfl (by kernel_rfl) (by kernel_rfl) (by kernel_rfl) (fun _ _ _ h => h) (Or.inl ⟨by rfl, ?_⟩) hHeld ?_
                rotate_left
                · (intro wz hSw; (try dsimp only at hSw); (try simp only [List.getElem_toArray, List.getElem_cons_succ, List.getElem_cons_zero]); go_simp; try with_reducible rfl)
                try simp only [List.getElem_toArray, List.getElem_cons_succ, List.getElem_cons_zero, Act.put, List.setIfInBounds_toArray, List.set_cons_zero, List.set_cons_succ]
                refine wpAnyH_take (i := 3) (v := ?_) rfl (by kernel_rfl) (by kernel_rfl) (by kernel_rfl) (fun _ _ _ h => h) (Or.inl ⟨by rfl, ?_⟩) hHeld ?_
                rotate_left
                · (intro wz hSw; (try dsimp only at hSw); (try simp only [List.getElem_toArray, List.getElem_cons_succ, List.getElem_cons_zero]); go_simp; try with_reducible rfl)
                try simp only [List.getElem_toArray, List.getElem_cons_succ, List.getElem_cons_zero, Act.put, List.setIfInBounds_toArray, List.set_cons_zero, List.set_cons_succ]
                refine wpAnyH_take (i := 4) (v := ?_) rfl (by kernel_rfl) (by kernel_rfl) (by kernel_rfl) (fun _ _ _ h => h) (Or.inl ⟨by rfl, ?_⟩) hHeld ?_
                rotate_left
                · (intro wz hSw; (try dsimp only at hSw); (try simp only [List.getElem_toArray, List.getElem_cons_succ, List.getElem_cons_zero]); go_simp; try with_reducible rfl)
                try simp only [List.getElem_toArray, List.getElem_cons_succ, List.getElem_cons_zero, Act.put, List.setIfInBounds_toArray, List.set_cons_zero, List.set_cons_succ]
                refine wpAnyH_take (i := 5) (v := undef) rfl (by kernel_rfl) (by kernel_rfl) (by kernel_rfl) (fun _ _ _ h => h) (Or.inr ⟨by rfl, rfl⟩) hHeld ?_
                try simp only [List.getElem_toArray, List.getElem_cons_succ, List.getElem_cons_zero, Act.put, List.setIfInBounds_toArray, List.set_cons_zero, List.set_cons_succ]
                refine wpAnyH_take (i := 6) (v := undef) rfl (by kernel_rfl) (by kernel_rfl) (by kernel_rfl) (fun _ _ _ h => h) (Or.inr ⟨by rfl, rfl⟩) hHeld ?_
                try simp only [List.getElem_toArray, List.getElem_cons_succ, List.getElem_cons_zero, Act.put, List.setIfInBounds_toArray, List.set_cons_zero, List.set_cons_succ]
                refine wpAnyH_take (i := 7) (v := ?_) rfl (by kernel_rfl) (by kernel_rfl) (by kernel_rfl) (fun _ _ _ h => h) (Or.inl ⟨by rfl, ?_⟩) hHeld ?_
                rotate_left
                · (intro wz hSw; (try dsimp only at hSw); (try simp only [List.getElem_toArray, List.getElem_cons_succ, List.getElem_cons_zero]); go_simp; try with_reducible rfl)
                try simp only [List.getElem_toArray, List.getElem_cons_succ, List.getElem_cons_zero, Act.put, List.setIfInBounds_toArray, List.set_cons_zero, List.set_cons_succ]
                refine wpAnyH_take (i := 8) (v := ?_) rfl (by kernel_rfl) (by kernel_rfl) (by kernel_rfl) (fun _ _ _ h => h) (Or.inl ⟨by rfl, ?_⟩) hHeld ?_
                rotate_left
                · (intro wz hSw; (try dsimp only at hSw); (try simp only [List.getElem_toArray, List.getElem_cons_succ, List.getElem_cons_zero]); go_simp; try with_reducible rfl)
                try simp only [List.getElem_toArray, List.getElem_cons_succ, List.getElem_cons_zero, Act.put, List.setIfInBounds_toArray, List.set_cons_zero, List.set_cons_succ]
                refine wpAnyH_take (i := 9) (v := undef) rfl (by kernel_rfl) (by kernel_rfl) (by kernel_rfl) (fun _ _ _ h => h) (Or.inr ⟨by rfl, rfl⟩) hHeld ?_
                try simp only [List.getElem_toArray, List.getElem_cons_succ, List.getElem_cons_zero, Act.put, List.setIfInBounds_toArray, List.set_cons_zero, List.set_cons_succ]
                refine wpAnyH_take (i := 10) (v := undef) rfl (by kernel_rfl) (by kernel_rfl) (by kernel_rfl) (fun _ _ _ h => h) (Or.inr ⟨by rfl, rfl⟩) hHeld ?_
                try simp only [List.getElem_toArray, List.getElem_cons_succ, List.getElem_cons_zero, Act.put, List.setIfInBounds_toArray, List.set_cons_zero, List.set_cons_succ]
                refine wpAnyH_take (i := 11) (v := undef) rfl (by kernel_rfl) (by kernel_rfl) (by kernel_rfl) (fun _ _ _ h => h) (Or.inr ⟨by rfl, rfl⟩) hHeld ?_
                try simp only [List.getElem_toArray, List.getElem_cons_succ, List.getElem_cons_zero, Act.put, List.setIfInBounds_toArray, List.set_cons_zero, List.set_cons_succ]
                refine wpAnyH_take (i := 12) (v := undef) rfl (by kernel_rfl) (by kernel_rfl) (by kernel_rfl) (fun _ _ _ h => h) (Or.inr ⟨by rfl, rfl⟩) hHeld ?_
                try simp only [List.getElem_toArray, List.getElem_cons_succ, List.getElem_cons_zero, Act.put, List.setIfInBounds_toArray, List.set_cons_zero, List.set_cons_succ]
                refine wpAnyH_take (i := 13) (v := ?_) rfl (by kernel_rfl) (by kernel_rfl) (by kernel_rfl) (fun _ _ _ h => h) (Or.inl ⟨by rfl, ?_⟩) hHeld ?_
                rotate_left
                · (intro wz hSw; (try dsimp only at hSw); (try simp only [List.getElem_toArray, List.getElem_cons_succ, List.getElem_cons_zero]); go_simp; try with_reducible rfl)
                try simp only [List.getElem_toArray, List.getElem_cons_succ, List.getElem_cons_zero, Act.put, List.setIfInBounds_toArray, List.set_cons_zero, List.set_cons_succ]
                refine wpAnyH_take (i := 14) (v := ?_) rfl (by kernel_rfl) (by kernel_rfl) (by kernel_rfl) (fun _ _ _ h => h) (Or.inl ⟨by rfl, ?_⟩) hHeld ?_
                rotate_left
                · (intro wz hSw; (try dsimp only at hSw); (try simp only [List.getElem_toArray, List.getElem_cons_succ, List.getElem_cons_zero]); go_simp; try with_reducible rfl)
                try simp only [List.getElem_toArray, List.getElem_cons_succ, List.getElem_cons_zero, Act.put, List.setIfInBounds_toArray, List.set_cons_zero, List.set_cons_succ]
                refine wpAnyH_take (i := 15) (v := undef) rfl (by kernel_rfl) (by kernel_rfl) (by kernel_rfl) (fun _ _ _ h => h) (Or.inr ⟨by rfl, rfl⟩) hHeld ?_
                try simp only [List.getElem_toArray, List.getElem_cons_succ, List.getElem_cons_zero, Act.put, List.setIfInBounds_toArray, List.set_cons_zero, List.set_cons_succ]
                refine wpAnyH_take (i := 16) (v := undef) rfl (by kernel_rfl) (by kernel_rfl) (by kernel_rfl) (fun _ _ _ h => h) (Or.inr ⟨by rfl, rfl⟩) hHeld ?_
                try simp only [List.getElem_toArray, List.getElem_cons_succ, List.getElem_cons_zero, Act.put, List.setIfInBounds_toArray, List.set_cons_zero, List.set_cons_succ]
                refine wpAnyH_take (i := 17) (v := undef) rfl (by kernel_rfl) (by kernel_rfl) (by kernel_rfl) (fun _ _ _ h => h) (Or.inr ⟨by rfl, rfl⟩) hHeld ?_
                try simp only [List.getElem_toArray, List.getElem_cons_succ, List.getElem_cons_zero, Act.put, List.setIfInBounds_toArray, List.set_cons_zero, List.set_cons_succ]
                refine wpAnyH_take (i := 18) (v := undef) rfl (by kernel_rfl) (by kernel_rfl) (by kernel_rfl) (fun _ _ _ h => h) (Or.inr ⟨by rfl, rfl⟩) hHeld ?_
                try simp only [List.getElem_toArray, List.getElem_cons_succ, List.getElem_cons_zero, Act.put, List.setIfInBounds_toArray, List.set_cons_zero, List.set_cons_succ]
                refine wpAnyH_take (i := 19) (v := undef) rfl (by kernel_rfl) (by kernel_rfl) (by kernel_rfl) (fun _ _ _ h => h) (Or.inr ⟨by rfl, rfl⟩) hHeld ?_
                try simp only [List.getElem_toArray, List.getElem_cons_succ, List.getElem_cons_zero, Act.put, List.setIfInBounds_toArray, List.set_cons_zero, List.set_cons_succ]
                refine wpAnyH_take (i := 20) (v := undef) rfl (by kernel_rfl) (by kernel_rfl) (by kernel_rfl) (fun _ _ _ h => h) (Or.inr ⟨by rfl, rfl⟩) hHeld ?_
                try simp only [List.getElem_toArray, List.getElem_cons_succ, List.getElem_cons_zero, Act.put, List.setIfInBounds_toArray, List.set_cons_zero, List.set_cons_succ]
                refine wpAnyH_take (i := 21) (v := undef) rfl (by kernel_rfl) (by kernel_rfl) (by kernel_rfl) (fun _ _ _ h => h) (Or.inr ⟨by rfl, rfl⟩) hHeld ?_
                try simp only [List.getElem_toArray, List.getElem_cons_succ, List.getElem_cons_zero, Act.put, List.setIfInBounds_toArray, List.set_cons_zero, List.set_cons_succ]
                refine wpAnyH_take (i := 22) (v := undef) rfl (by kernel_rfl) (by kernel_rfl) (by kernel_rfl) (fun _ _ _ h => h) (Or.inr ⟨by rfl, rfl⟩) hHeld ?_
                try simp only [List.getElem_toArray, List.getElem_cons_succ, List.getElem_cons_zero, Act.put, List.setIfInBounds_toArray, List.set_cons_zero, List.set_cons_succ]
                refine wpAnyH_take (i := 23) (v := undef) rfl (by kernel_rfl) (by kernel_rfl) (by kernel_rfl) (fun _ _ _ h => h) (Or.inr ⟨by rfl, rfl⟩) hHeld ?_
                try simp only [List.getElem_toArray, List.getElem_cons_succ, List.getElem_cons_zero, Act.put, List.setIfInBounds_toArray, List.set_cons_zero, List.set_cons_succ]
                refine wpAnyH_take (i := 24) (v := ?_) rfl (by kernel_rfl) (by kernel_rfl) (by kernel_rfl) (fun _ _ _ h => h) (Or.inl ⟨by rfl, ?_⟩) hHeld ?_
                rotate_left
                · (intro wz hSw; (try dsimp only at hSw); (try simp only [List.getElem_toArray, List.getElem_cons_succ, List.getElem_cons_zero]); go_simp; try with_reducible rfl)
                try simp only [List.getElem_toArray, List.getElem_cons_succ, List.getElem_cons_zero, Act.put, List.setIfInBounds_toArray, List.set_cons_zero, List.set_cons_succ]
                refine wpAnyH_done (by kernel_rfl) ?_ _
                refine NoPanic.normal ?_
                clear hHeld kR
                go_wp2_with fail
                exact HQN.out _ _ rfl rfl rfl rfl (bld_fail hkm HF0.out HST.out) HBD.out
              · have HST : Hid (bldStep (some (life, l.map CoX.c)) (L.map RcX.xs)[k] = none) := by show _ = _; rw [HXK.out]; exact bldStep_bad HRD.out ha (.inr (.inl hneg))
                have hdn : decide (n < 0) = true := by simpa using hneg
                go_upto_region 17 with fail
                obtain ⟨wd, ewd⟩ : ∃ z, w3.drew = z := ⟨_, rfl⟩
                have bd : Below w3.heap.size w3 wd := by rw [← ewd]; exact (Below.refl _ _).drew
                have HBD := Lib.hid (HB3.out.trans (bd.mono HB3.out.size))
                obtain ⟨_, rp, rcp, hRq, _⟩ := (HR3.out.keep bd (Nat.le_refl _)).r
                have kR := block_cells hRq
                refine wp_region_noPanic ?_
                refine wp_region_held_drew (S := fun w' => w' = wd) (by kernel_rfl) ewd (fun hHeld => ?_)
                rw [ewd] at hHeld ⊢
                clear ewd bd hRq k0
                refine wpAnyH_take (i := 0) (v := ?_) rfl (by kernel_rfl) (by kernel_rfl) (by kernel_rfl) (fun _ _ _ h => h) (Or.inl ⟨by rfl, ?_⟩) hHeld ?_
                rotate_left
                · (intro wz hSw; (try dsimp only at hSw); (try simp only [List.getElem_toArray, List.getElem_cons_zero]); go_simp; try with_reducible rfl)
                try simp only [List.getElem_toArray, List.getElem_cons_zero, Act.put, List.setIfInBounds_toArray, List.set_cons_zero, List.set_cons_succ]
                refine wpAnyH_take (i := 1) (v := ?_) rfl (by kernel_rfl) (by kernel_rfl) (by kernel_rfl) (fun _ _ _ h => h) (Or.inl ⟨by rfl, ?_⟩) hHeld ?_
                rotate_left
                · (intro wz hSw; (try dsimp only at hSw); (try simp only [List.getElem_toArray, List.getElem_cons_succ, List.getElem_cons_zero]); go_simp; try with_reducible rfl)
                try simp only [List.getElem_toArray, List.getElem_cons_succ, List.getElem_cons_zero, Act.put, List.setIfInBounds_toArray, List.set_cons_zero, List.set_cons_succ]
                refine wpAnyH_take (i := 2) (v := ?_) rfl (by kernel_rfl) (by kernel_rfl) (by kernel_rfl) (fun _ _ _ h => h) (Or.inl ⟨by rfl, ?_⟩) hHeld ?_
                rotate_left
                · (intro wz hSw; (try dsimp only at hSw); (try simp only [List.getElem_toArray, List.getElem_cons_succ, List.getElem_cons_zero]); go_simp; try with_reducible rfl)
                try simp only [List.getElem_toArray, List.getElem_cons_succ, List.getElem_cons_zero, Act.put, List.setIfInBounds_toArray, List.set_cons_zero, List.set_cons_succ]
                refine wpAnyH_take (i := 3) (v := ?_) rfl (by kernel_rfl) (by kernel_rfl) (by kernel_rfl) (fun _ _ _ h => h) (Or.inl ⟨by rfl, ?_⟩) hHeld ?_
                rotate_left
                · (intro wz hSw; (try dsimp only at hSw); (try simp only [List.getElem_toArray, List.getElem_cons_succ, List.getElem_cons_zero]); go_simp; try with_reducible rfl)
                try simp only [List.getElem_toArray, List.getElem_cons_succ, List.getElem_cons_zero, Act.put, List.setIfInBounds_toArray, List.set_cons_zero, List.set_cons_succ]
                refine wpAnyH_take (i := 4) (v := ?_) rfl (by kernel_rfl) (by kernel_rfl) (by kernel_rfl) (fun _ _ _ h => h) (Or.inl ⟨by rfl, ?_⟩) hHeld ?_
                rotate_left
                · (intro wz hSw; (try dsimp only at hSw); (try simp only [List.getElem_toArray, List.getElem_cons_succ, List.getElem_cons_zero]); go_simp; try with_reducible rfl)
                try simp only [List.getElem_toArray, List.getElem_cons_succ, List.getElem_cons_zero, Act.put, List.setIfInBounds_toArray, List.set_cons_zero, List.set_cons_succ]
                refine wpAnyH_take (i := 5) (v := ?_) rfl (by kernel_rfl) (by kernel_rfl) (by kernel_rfl) (fun _ _ _ h => h) (Or.inl ⟨by rfl, ?_⟩) hHeld ?_
                rotate_left
                · (intro wz hSw; (try dsimp only at hSw); (try simp only [List.getElem_toArray, List.getElem_cons_succ, List.getElem_cons_zero]); go_simp; try with_reducible rfl)
                try simp only [List.getElem_toArray, List.getElem_cons_succ, List.getElem_cons_zero, Act.put, List.setIfInBounds_toArray, List.set_cons_zero, List.set_cons_succ]
                refine wpAnyH_take (i := 6) (v := ?_) rfl (by kernel_rfl) (by kernel_rfl) (by kernel_rfl) (fun _ _ _ h => h) (Or.inl ⟨by rfl, ?_⟩) hHeld ?_
                rotate_left
                · (intro wz hSw; (try dsimp only at hSw); (try simp only [List.getElem_toArray, List.getElem_cons_succ, List.getElem_cons_zero]); go_simp; try with_reducible rfl)
                try simp only [List.getElem_toArray, List.getElem_cons_succ, List.getElem_cons_zero, Act.put, List.setIfInBounds_toArray, List.set_cons_zero, List.set_cons_succ]
                refine wpAnyH_take (i := 7) (v := ?_) rfl (by kernel_rfl) (by kernel_rfl) (by kernel_rfl) (fun _ _ _ h => h) (Or.inl ⟨by rfl, ?_⟩) hHeld ?_
                rotate_left
                · (intro wz hSw; (try dsimp only at hSw); (try simp only [List.getElem_toArray, List.getElem_cons_succ, List.getElem_cons_zero]); go_simp; try with_reducible rfl)
                try simp only [List.getElem_toArray, List.getElem_cons_succ, List.getElem_cons_zero, Act.put, List.setIfInBounds_toArray, List.set_cons_zero, List.set_cons_succ]
                refine wpAnyH_take (i := 8) (v := ?_) rfl (by kernel_rfl) (by kernel_rfl) (by kernel_rfl) (fun _ _ _ h => h) (Or.inl ⟨by rfl, ?_⟩) hHeld ?_
                rotate_left
                · (intro wz hSw; (try dsimp only at hSw); (try simp only [List.getElem_toArray, List.getElem_cons_succ, List.getElem_cons_zero]); go_simp; try with_reducible rfl)
                try simp only [List.getElem_toArray, List.getElem_cons_succ, List.getElem_cons_zero, Act.put, List.setIfInBounds_toArray, List.set_cons_zero, List.set_cons_succ]
                refine wpAnyH_take (i := 9) (v := undef) rfl (by kernel_rfl) (by kernel_rfl) (by kernel_rfl) (fun _ _ _ h => h) (Or.inr ⟨by rfl, rfl⟩) hHeld ?_
                try simp only [List.getElem_toArray, List.getElem_cons_succ, List.getElem_cons_zero, Act.put, List.setIfInBounds_toArray, List.set_cons_zero, List.set_cons_succ]
                refine wpAnyH_take (i := 10) (v := undef) rfl (by kernel_rfl) (by kernel_rfl) (by kernel_rfl) (fun _ _ _ h => h) (Or.inr ⟨by rfl, rfl⟩) hHeld ?_
                try simp only [List.getElem_toArray, List.getElem_cons_succ, List.getElem_cons_zero, Act.put, List.setIfInBounds_toArray, List.set_cons_zero, List.set_cons_succ]
                refine wpAnyH_take (i := 11) (v := undef) rfl (by kernel_rfl) (by kernel_rfl) (by kernel_rfl) (fun _ _ _ h => h) (Or.inr ⟨by rfl, rfl⟩) hHeld ?_
                try simp only [List.getElem_toArray, List.getElem_cons_succ, List.getElem_cons_zero, Act.put, List.setIfInBounds_toArray, List.set_cons_zero, List.set_cons_succ]
                refine wpAnyH_take (i := 12) (v := undef) rfl (by kernel_rfl) (by kernel_rfl) (by kernel_rfl) (fun _ _ _ h => h) (Or.inr ⟨by rfl, rfl⟩) hHeld ?_
                try simp only [List.getElem_toArray, List.getElem_cons_succ, List.getElem_cons_zero, Act.put, List.setIfInBounds_toArray, List.set_cons_zero, List.set_cons_succ]
                refine wpAnyH_take (i := 13) (v := ?_) rfl (by kernel_rfl) (by kernel_rfl) (by kernel_rfl) (fun _ _ _ h => h) (Or.inl ⟨by rfl, ?_⟩) hHeld ?_
                rotate_left
                · (intro wz hSw; (try dsimp only at hSw); (try simp only [List.getElem_toArray, List.getElem_cons_succ, List.getElem_cons_zero]); go_simp; try with_reducible rfl)
                try simp only [List.getElem_toArray, List.getElem_cons_succ, List.getElem_cons_zero, Act.put, List.setIfInBounds_toArray, List.set_cons_zero, List.set_cons_succ]
                refine wpAnyH_take (i := 14) (v := ?_) rfl (by kernel_rfl) (by kernel_rfl) (by kernel_rfl) (fun _ _ _ h => h) (Or.inl ⟨by rfl, ?_⟩) hHeld ?_
                rotate_left
                · (intro wz hSw; (try dsimp only at hSw); (try simp only [List.getElem_toArray, List.getElem_cons_succ, List.getElem_cons_zero]); go_simp; try with_reducible rfl)
                try simp only [List.getElem_toArray, List.getElem_cons_succ, List.getElem_cons_zero, Act.put, List.setIfInBounds_toArray, List.set_cons_zero, List.set_cons_succ]
                refine wpAnyH_take (i := 15) (v := undef) rfl (by kernel_rfl) (by kernel_rfl) (by kernel_rfl) (fun _ _ _ h => h) (Or.inr ⟨by rfl, rfl⟩) hHeld ?_
                try simp only [List.getElem_toArray, List.getElem_cons_succ, List.getElem_cons_zero, Act.put, List.setIfInBounds_toArray, List.set_cons_zero, List.set_cons_succ]
                refine wpAnyH_take (i := 16) (v := undef) rfl (by kernel_rfl) (by kernel_rfl) (by kernel_rfl) (fun _ _ _ h => h) (Or.inr ⟨by rfl, rfl⟩) hHeld ?_
                try simp only [List.getElem_toArray, List.getElem_cons_succ, List.getElem_cons_zero, Act.put, List.setIfInBounds_toArray, List.set_cons_zero, List.set_cons_succ]
                refine wpAnyH_take (i := 17) (v := undef) rfl (by kernel_rfl) (by kernel_rfl) (by kernel_rfl) (fun _ _ _ h => h) (Or.inr ⟨by rfl, rfl⟩) hHeld ?_
                try simp only [List.getElem_toArray, List.getElem_cons_succ, List.getElem_cons_zero, Act.put, List.setIfInBounds_toArray, List.set_cons_zero, List.set_cons_succ]
                refine wpAnyH_take (i := 18) (v := undef) rfl (by kernel_rfl) (by kernel_rfl) (by kernel_rfl) (fun _ _ _ h => h) (Or.inr ⟨by rfl, rfl⟩) hHeld ?_
                try simp only [List.getElem_toArray, List.getElem_cons_succ, List.getElem_cons_zero, Act.put, List.setIfInBounds_toArray, List.set_cons_zero, List.set_cons_succ]
                refine wpAnyH_take (i := 19) (v := undef) rfl (by kernel_rfl) (by kernel_rfl) (by kernel_rfl) (fun _ _ _ h => h) (Or.inr ⟨by rfl, rfl⟩) hHeld ?_
                try simp only [List.getElem_toArray, List.getElem_cons_succ, List.getElem_cons_zero, Act.put, List.setIfInBounds_toArray, List.set_cons_zero, List.set_cons_succ]
                refine wpAnyH_take (i := 20) (v := undef) rfl (by kernel_rfl) (by kernel_rfl) (by kernel_rfl) (fun _ _ _ h => h) (Or.inr ⟨by rfl, rfl⟩) hHeld ?_
                try simp only [List.getElem_toArray, List.getElem_cons_succ, List.getElem_cons_zero, Act.put, List.setIfInBounds_toArray, List.set_cons_zero, List.set_cons_succ]
                refine wpAnyH_take (i := 21) (v := undef) rfl (by kernel_rfl) (by kernel_rfl) (by kernel_rfl) (fun _ _ _ h => h) (Or.inr ⟨by rfl, rfl⟩) hHeld ?_
                try simp only [List.getElem_toArray, List.getElem_cons_succ, List.getElem_cons_zero, Act.put, List.setIfInBounds_toArray, List.set_cons_zero, List.set_cons_succ]
                refine wpAnyH_take (i := 22) (v := undef) rfl (by kernel_rfl) (by kernel_rfl) (by kernel_rfl) (fun _ _ _ h => h) (Or.inr ⟨by rfl, rfl⟩) hHeld ?_
                try simp only [List.getElem_toArray, List.getElem_cons_succ, List.getElem_cons_zero, Act.put, List.setIfInBounds_toArray, List.set_cons_zero, List.set_cons_succ]
                refine wpAnyH_take (i := 23) (v := undef) rfl (by kernel_rfl) (by kernel_rfl) (by kernel_rfl) (fun _ _ _ h => h) (Or.inr ⟨by rfl, rfl⟩) hHeld ?_
                try simp only [List.getElem_toArray, List.getElem_cons_succ, List.getElem_cons_zero, Act.put, List.setIfInBounds_toArray, List.set_cons_zero, List.set_cons_succ]
                refine wpAnyH_take (i := 24) (v := ?_) rfl (by kernel_rfl) (by kernel_rfl) (by kernel_rfl) (fun _ _ _ h => h) (Or.inl ⟨by rfl, ?_⟩) hHeld ?_
                rotate_left
                · (intro wz hSw; (try dsimp only at hSw); (try simp only [List.getElem_toArray, List.getElem_cons_succ, List.getElem_cons_zero]); go_simp; try with_reducible rfl)
                try simp only [List.getElem_toArray, List.getElem_cons_succ, List.getElem_cons_zero, Act.put, List.setIfInBounds_toArray, List.set_cons_zero, List.set_cons_succ]
                refine wpAnyH_done (by kernel_rfl) ?_ _
                refine NoPanic.normal ?_
                clear hHeld kR
                go_wp2_with fail
                exact HQN.out _ _ rfl rfl rfl rfl (bld_fail hkm HF0.out HST.out) HBD.out
              · have HST : Hid (bldStep (some (life, l.map CoX.c)) (L.map RcX.xs)[k] = none) := by show _ = _; rw [HXK.out]; exact bldStep_bad HRD.out ha (.inr (.inr (by simpa using hbig)))
                have hdn : decide (n < 0) = false := by simpa using hneg
                have hdb : decide ((l.length : Int) ≤ n) = true := by simpa using hbig
                go_upto_region 17 with fail
                obtain ⟨wd, ewd⟩ : ∃ z, w3.drew = z := ⟨_, rfl⟩
                have bd : Below w3.heap.size w3 wd := by rw [← ewd]; exact (Below.refl _ _).drew
                have HBD := Lib.hid (HB3.out.trans (bd.mono HB3.out.size))
                obtain ⟨_, rp, rcp, hRq, _⟩ := (HR3.out.keep bd (Nat.le_refl _)).r
                have kR := block_cells hRq
                refine wp_region_noPanic ?_
                refine wp_region_held_drew (S := fun w' => w' = wd) (by kernel_rfl) ewd (fun hHeld => ?_)
                rw [ewd] at hHeld ⊢
                clear ewd bd hRq k0
                refine wpAnyH_take (i := 0) (v := ?_) rfl (by kernel_rfl) (by kernel_rfl) (by kernel_rfl) (fun _ _ _ h => h) (Or.inl ⟨by rfl, ?_⟩) hHeld ?_
                rotate_left
                · (intro wz hSw; (try dsimp only at hSw); (try simp only [List.getElem_toArray, List.getElem_cons_zero]); go_simp; try with_reducible rfl)
                try simp only [List.getElem_toArray, List.getElem_cons_zero, Act.put, List.setIfInBounds_toArray, List.set_cons_zero, List.set_cons_succ]
                refine wpAnyH_take (i := 1) (v := ?_) rfl (by kernel_rfl) (by kernel_rfl) (by kernel_rfl) (fun _ _ _ h => h) (Or.inl ⟨by rfl, ?_⟩) hHeld ?_
                rotate_left
                · (intro wz hSw; (try dsimp only at hSw); (try simp only [List.getElem_toArray, List.getElem_cons_succ, List.getElem_cons_zero]); go_simp; try with_reducible rfl)
                try simp only [List.getElem_toArray, List.getElem_cons_succ, List.getElem_cons_zero, Act.put, List.setIfInBounds_toArray, List.set_cons_zero, List.set_cons_succ]
                refine wpAnyH_take (i := 2) (v := ?_) rfl (by kernel_rfl) (by kernel_rfl) (by kernel_rfl) (fun _ _ _ h => h) (Or.inl ⟨by rfl, ?_⟩) hHeld ?_
                rotate_left
                · (intro wz hSw; (try dsimp only at hSw); (try simp only [List.getElem_toArray, List.getElem_cons_succ, List.getElem_cons_zero]); go_simp; try with_reducible rfl)
                try simp only [List.getElem_toArray, List.getElem_cons_succ, List.getElem_cons_zero, Act.put, List.setIfInBounds_toArray, List.set_cons_zero, List.set_cons_succ]
                refine wpAnyH_take (i := 3) (v := ?_) rfl (by kernel_rfl) (by kernel_rfl) (by kernel_rfl) (fun _ _ _ h => h) (Or.inl ⟨by rfl, ?_⟩) hHeld ?_
                rotate_left
                · (intro wz hSw; (try dsimp only at hSw); (try simp only [List.getElem_toArray, List.getElem_cons_succ, List.getElem_cons_zero]); go_simp; try with_reducible rfl)
                try simp only [List.getElem_toArray, List.getElem_cons_succ, List.getElem_cons_zero, Act.put, List.setIfInBounds_toArray, List.set_cons_zero, List.set_cons_succ]
                refine wpAnyH_take (i := 4) (v := ?_) rfl (by kernel_rfl) (by kernel_rfl) (by kernel_rfl) (fun _ _ _ h => h) (Or.inl ⟨by rfl, ?_⟩) hHeld ?_
                rotate_left
                · (intro wz hSw; (try dsimp only at hSw); (try simp only [List.getElem_toArray, List.getElem_cons_succ, List.getElem_cons_zero]); go_simp; try with_reducible rfl)
                try simp only [List.getElem_toArray, List.getElem_cons_succ, List.getElem_cons_zero, Act.put, List.setIfInBounds_toArray, List.set_cons_zero, List.set_cons_succ]
                refine wpAnyH_take (i := 5) (v := ?_) rfl (by kernel_rfl) (by kernel_rfl) (by kernel_rfl) (fun _ _ _ h => h) (Or.inl ⟨by rfl, ?_⟩) hHeld ?_
                rotate_left
                · (intro wz hSw; (try dsimp only at hSw); (try simp only [List.getElem_toArray, List.getElem_cons_succ, List.getElem_cons_zero]); go_simp; try with_reducible rfl)
                try simp only [List.getElem_toArray, List.getElem_cons_succ, List.getElem_cons_zero, Act.put, List.setIfInBounds_toArray, List.set_cons_zero, List.set_cons_succ]
                refine wpAnyH_take (i := 6) (v := ?_) rfl (by kernel_rfl) (by kernel_rfl) (by kernel_rfl) (fun _ _ _ h => h) (Or.inl ⟨by rfl, ?_⟩) hHeld ?_
                rotate_left
                · (intro wz hSw; (try dsimp only at hSw); (try simp only [List.getElem_toArray, List.getElem_cons_succ, List.getElem_cons_zero]); go_simp; try with_reducible rfl)
                try simp only [List.getElem_toArray, List.getElem_cons_succ, List.getElem_cons_zero, Act.put, List.setIfInBounds_toArray, List.set_cons_zero, List.set_cons_succ]
                refine wpAnyH_take (i := 7) (v := ?_) rfl (by kernel_rfl) (by kernel_rfl) (by kernel_rfl) (fun _ _ _ h => h) (Or.inl ⟨by rfl, ?_⟩) hHeld ?_
                rotate_left
                · (intro wz hSw; (try dsimp only at hSw); (try simp only [List.getElem_toArray, List.getElem_cons_succ, List.getElem_cons_zero]); go_simp; try with_reducible rfl)
                try simp only [List.getElem_toArray, List.getElem_cons_succ, List.getElem_cons_zero, Act.put, List.setIfInBounds_toArray, List.set_cons_zero, List.set_cons_succ]
                refine wpAnyH_take (i := 8) (v := ?_) rfl (by kernel_rfl) (by kernel_rfl) (by kernel_rfl) (fun _ _ _ h => h) (Or.inl ⟨by rfl, ?_⟩) hHeld ?_
                rotate_left
                · (intro wz hSw; (try dsimp only at hSw); (try simp only [List.getElem_toArray, List.getElem_cons_succ, List.getElem_cons_zero]); go_simp; try with_reducible rfl)
                try simp only [List.getElem_toArray, List.getElem_cons_succ, List.getElem_cons_zero, Act.put, List.setIfInBounds_toArray, List.set_cons_zero, List.set_cons_succ]
                refine wpAnyH_take (i := 9) (v := ?_) rfl (by kernel_rfl) (by kernel_rfl) (by kernel_rfl) (fun _ _ _ h => h) (Or.inl ⟨by rfl, ?_⟩) hHeld ?_
                rotate_left
                · (intro wz hSw; (try dsimp only at hSw); (try simp only [List.getElem_toArray, List.getElem_cons_succ, List.getElem_cons_zero]); go_simp; try with_reducible rfl)
                try simp only [List.getElem_toArray, List.getElem_cons_succ, List.getElem_cons_zero, Act.put, List.setIfInBounds_toArray, List.set_cons_zero, List.set_cons_succ]
                refine wpAnyH_take (i := 10) (v := ?_) rfl (by kernel_rfl) (by kernel_rfl) (by kernel_rfl) (fun _ _ _ h => h) (Or.inl ⟨by rfl, ?_⟩) hHeld ?_
                rotate_left
                · (intro wz hSw; (try dsimp only at hSw); (try simp only [List.getElem_toArray, List.getElem_cons_succ, List.getElem_cons_zero]); go_simp; try with_reducible rfl)
                try simp only [List.getElem_toArray, List.getElem_cons_succ, List.getElem_cons_zero, Act.put, List.setIfInBounds_toArray, List.set_cons_zero, List.set_cons_succ]
                refine wpAnyH_take (i := 11) (v := ?_) rfl (by kernel_rfl) (by kernel_rfl) (by kernel_rfl) (fun _ _ _ h => h) (Or.inl ⟨by rfl, ?_⟩) hHeld ?_
                rotate_left
                · (intro wz hSw; (try dsimp only at hSw); (try simp only [List.getElem_toArray, List.getElem_cons_succ, List.getElem_cons_zero]); go_simp; try with_reducible rfl)
                try simp only [List.getElem_toArray, List.getElem_cons_succ, List.getElem_cons_zero, Act.put, List.setIfInBounds_toArray, List.set_cons_zero, List.set_cons_succ]
                refine wpAnyH_take (i := 12) (v := ?_) rfl (by kernel_rfl) (by kernel_rfl) (by kernel_rfl) (fun _ _ _ h => h) (Or.inl ⟨by rfl, ?_⟩) hHeld ?_
                rotate_left
                · (intro wz hSw; (try dsimp only at hSw); (try simp only [List.getElem_toArray, List.getElem_cons_succ, List.getElem_cons_zero]); go_simp; try with_reducible rfl)
                try simp only [List.getElem_toArray, List.getElem_cons_succ, List.getElem_cons_zero, Act.put, List.setIfInBounds_toArray, List.set_cons_zero, List.set_cons_succ]
                refine wpAnyH_take (i := 13) (v := ?_) rfl (by kernel_rfl) (by kernel_rfl) (by kernel_rfl) (fun _ _ _ h => h) (Or.inl ⟨by rfl, ?_⟩) hHeld ?_
                rotate_left
                · (intro wz hSw; (try dsimp only at hSw); (try simp only [List.getElem_toArray, List.getElem_cons_succ, List.getElem_cons_zero]); go_simp; try with_reducible rfl)
                try simp only [List.getElem_toArray, List.getElem_cons_succ, List.getElem_cons_zero, Act.put, List.setIfInBounds_toArray, List.set_cons_zero, List.set_cons_succ]
                refine wpAnyH_take (i := 14) (v := ?_) rfl (by kernel_rfl) (by kernel_rfl) (by kernel_rfl) (fun _ _ _ h => h) (Or.inl ⟨by rfl, ?_⟩) hHeld ?_
                rotate_left
                · (intro wz hSw; (try dsimp only at hSw); (try simp only [List.getElem_toArray, List.getElem_cons_succ, List.getElem_cons_zero]); go_simp; try with_reducible rfl)
                try simp only [List.getElem_toArray, List.getElem_cons_succ, List.getElem_cons_zero, Act.put, List.setIfInBounds_toArray, List.set_cons_zero, List.set_cons_succ]
                refine wpAnyH_take (i := 15) (v := undef) rfl (by kernel_rfl) (by kernel_rfl) (by kernel_rfl) (fun _ _ _ h => h) (Or.inr ⟨by rfl, rfl⟩) hHeld ?_
                try simp only [List.getElem_toArray, List.getElem_cons_succ, List.getElem_cons_zero, Act.put, List.setIfInBounds_toArray, List.set_cons_zero, List.set_cons_succ]
                refine wpAnyH_take (i := 16) (v := undef) rfl (by kernel_rfl) (by kernel_rfl) (by kernel_rfl) (fun _ _ _ h => h) (Or.inr ⟨by rfl, rfl⟩) hHeld ?_
                try simp only [List.getElem_toArray, List.getElem_cons_succ, List.getElem_cons_zero, Act.put, List.setIfInBounds_toArray, List.set_cons_zero, List.set_cons_succ]
                refine wpAnyH_take (i := 17) (v := undef) rfl (by kernel_rfl) (by kernel_rfl) (by kernel_rfl) (fun _ _ _ h => h) (Or.inr ⟨by rfl, rfl⟩) hHeld ?_
                try simp only [List.getElem_toArray, List.getElem_cons_succ, List.getElem_cons_zero, Act.put, List.setIfInBounds_toArray, List.set_cons_zero, List.set_cons_succ]
                refine wpAnyH_take (i := 18) (v := undef) rfl (by kernel_rfl) (by kernel_rfl) (by kernel_rfl) (fun _ _ _ h => h) (Or.inr ⟨by rfl, rfl⟩) hHeld ?_
                try simp only [List.getElem_toArray, List.getElem_cons_succ, List.getElem_cons_zero, Act.put, List.setIfInBounds_toArray, List.set_cons_zero, List.set_cons_succ]
                refine wpAnyH_take (i := 19) (v := undef) rfl (by kernel_rfl) (by kernel_rfl) (by kernel_rfl) (fun _ _ _ h => h) (Or.inr ⟨by rfl, rfl⟩) hHeld ?_
                try simp only [List.getElem_toArray, List.getElem_cons_succ, List.getElem_cons_zero, Act.put, List.setIfInBounds_toArray, List.set_cons_zero, List.set_cons_succ]
                refine wpAnyH_take (i := 20) (v := undef) rfl (by kernel_rfl) (by kernel_rfl) (by kernel_rfl) (fun _ _ _ h => h) (Or.inr ⟨by rfl, rfl⟩) hHeld ?_
                try simp only [List.getElem_toArray, List.getElem_cons_succ, List.getElem_cons_zero, Act.put, List.setIfInBounds_toArray, List.set_cons_zero, List.set_cons_succ]
                refine wpAnyH_take (i := 21) (v := undef) rfl (by kernel_rfl) (by kernel_rfl) (by kernel_rfl) (fun _ _ _ h => h) (Or.inr ⟨by rfl, rfl⟩) hHeld ?_
                try simp only [List.getElem_toArray, List.getElem_cons_succ, List.getElem_cons_zero, Act.put, List.setIfInBounds_toArray, List.set_cons_zero, List.set_cons_succ]
                refine wpAnyH_take (i := 22) (v := undef) rfl (by kernel_rfl) (by kernel_rfl) (by kernel_rfl) (fun _ _ _ h => h) (Or.inr ⟨by rfl, rfl⟩) hHeld ?_
                try simp only [List.getElem_toArray, List.getElem_cons_succ, List.getElem_cons_zero, Act.put, List.setIfInBounds_toArray, List.set_cons_zero, List.set_cons_succ]
                refine wpAnyH_take (i := 23) (v := undef) rfl (by kernel_rfl) (by kernel_rfl) (by kernel_rfl) (fun _ _ _ h => h) (Or.inr ⟨by rfl, rfl⟩) hHeld ?_
                try simp only [List.getElem_toArray, List.getElem_cons_succ, List.getElem_cons_zero, Act.put, List.setIfInBounds_toArray, List.set_cons_zero, List.set_cons_succ]
                refine wpAnyH_take (i := 24) (v := ?_) rfl (by kernel_rfl) (by kernel_rfl) (by kernel_rfl) (fun _ _ _ h => h) (Or.inl ⟨by rfl, ?_⟩) hHeld ?_
                rotate_left
                · (intro wz hSw; (try dsimp only at hSw); (try simp only [List.getElem_toArray, List.getElem_cons_succ, List.getElem_cons_zero]); go_simp; try with_reducible rfl)
                try simp only [List.getElem_toArray, List.getElem_cons_succ, List.getElem_cons_zero, Act.put, List.setIfInBounds_toArray, List.set_cons_zero, List.set_cons_succ]
                refine wpAnyH_done (by kernel_rfl) ?_ _
                refine NoPanic.normal ?_
                clear hHeld kR
                go_wp2_with fail
                exact HQN.out _ _ rfl rfl rfl rfl (bld_fail hkm HF0.out HST.out) HBD.out
              · obtain ⟨G, rfl⟩ : ∃ G, pv = some ⟨G, 0, none⟩ := by
                  rcases HC3.out.own.2 with ⟨h', hz⟩ | ⟨g', cap', cur, h', _⟩
                  · omega
                  · simp only [Value.slice.injEq] at h'; exact ⟨g', h'.1⟩
                have hdn : decide ((m : Int) < 0) = false := by simp
                have hdb : decide ((l.length : Int) ≤ (m : Int)) = false := by simp; omega
                have hdb2 : decide (l.length ≤ m) = false := by simp; omega
                obtain ⟨x, hx⟩ : ∃ x, l[m] = x := ⟨_, rfl⟩
                have hmc : m < (l.map CoX.c).length := by simpa using hm
                have HST0 := Lib.hid (bldStep_say (s := (life, l.map CoX.c)) HRD.out ha hmc)
                have hfx : LgFit x.c.l := HIN.out.fit (by omega) (by rw [← hx]; exact List.getElem_mem hm)
                have HFX := Lib.hid hfx; have HX := Lib.hid hx
                clear hfx hx
                go_upto_region 17 with fail
                obtain ⟨wd, ewd⟩ : ∃ z, w3.drew = z := ⟨_, rfl⟩
                have bd : Below w3.heap.size w3 wd := by rw [← ewd]; exact (Below.refl _ _).drew
                have HBD := Lib.hid (HB3.out.trans (bd.mono HB3.out.size)); have HRDD := Lib.hid (HR3.out.keep bd (Nat.le_refl _)); have HCD := Lib.hid (HC3.out.keep bd)
                obtain ⟨_, rp, rcp, hRq, _⟩ := HRDD.out.r
                have kR := block_cells hRq
                refine wp_region_noPanic ?_
                refine wp_region_held_drew (S := fun w' => w'.cell? ⟨bg, bo, none⟩ = some (.int .u8 a)) (by kernel_rfl) (by rw [ewd]; exact HBB.out wd HBD.out) (fun hHeld => ?_)
                rw [ewd] at hHeld ⊢
                clear ewd bd hRq k0
                refine wpAnyH_take (i := 0) (v := ?_) rfl (by kernel_rfl) (by kernel_rfl) (by kernel_rfl) (fun _ _ _ h => h) (Or.inl ⟨by rfl, ?_⟩) hHeld ?_
                rotate_left
                · (intro wz hSw; (try dsimp only at hSw); (try simp only [List.getElem_toArray, List.getElem_cons_zero]); go_simp; try with_reducible rfl)
                try simp only [List.getElem_toArray, List.getElem_cons_zero, Act.put, List.setIfInBounds_toArray, List.set_cons_zero, List.set_cons_succ]
                refine wpAnyH_take (i := 1) (v := ?_) rfl (by kernel_rfl) (by kernel_rfl) (by kernel_rfl) (fun _ _ _ h => h) (Or.inl ⟨by rfl, ?_⟩) hHeld ?_
                rotate_left
                · (intro wz hSw; (try dsimp only at hSw); (try simp only [List.getElem_toArray, List.getElem_cons_succ, List.getElem_cons_zero]); go_simp; try with_reducible rfl)
                try simp only [List.getElem_toArray, List.getElem_cons_succ, List.getElem_cons_zero, Act.put, List.setIfInBounds_toArray, List.set_cons_zero, List.set_cons_succ]
                refine wpAnyH_take (i := 2) (v := ?_) rfl (by kernel_rfl) (by kernel_rfl) (by kernel_rfl) (fun _ _ _ h => h) (Or.inl ⟨by rfl, ?_⟩) hHeld ?_
                rotate_left
                · (intro wz hSw; (try dsimp only at hSw); (try simp only [List.getElem_toArray, List.getElem_cons_succ, List.getElem_cons_zero]); go_simp; try with_reducible rfl)
                try simp only [List.getElem_toArray, List.getElem_cons_succ, List.getElem_cons_zero, Act.put, List.setIfInBounds_toArray, List.set_cons_zero, List.set_cons_succ]
                refine wpAnyH_ready (rs := [3]) (by kernel_rfl) (by simp) ?_; refine AllReadyH.cons rfl (fun K hK => ?_) AllReadyH.nil; (try simp only [List.getElem_toArray, List.getElem_cons_succ, List.getElem_cons_zero]); go_simp
                refine hK.out _ _ hHeld (fun _ => ?_)
                clear hK K kR
                try simp only [List.getElem_toArray, List.getElem_cons_succ, List.getElem_cons_zero, Act.put, List.setIfInBounds_toArray, List.set_cons_zero, List.set_cons_succ]
                refine wpAnyH_take (i := 4) (v := ?_) rfl (by kernel_rfl) (by kernel_rfl) (by kernel_rfl) (fun _ _ _ h => h) (Or.inl ⟨by rfl, ?_⟩) hHeld ?_
                rotate_left
                · (intro wz hSw; (try dsimp only at hSw); (try simp only [List.getElem_toArray, List.getElem_cons_succ, List.getElem_cons_zero]); go_simp; try with_reducible rfl)
                try simp only [List.getElem_toArray, List.getElem_cons_succ, List.getElem_cons_zero, Act.put, List.setIfInBounds_toArray, List.set_cons_zero, List.set_cons_succ]
                refine wpAnyH_take (i := 5) (v := ?_) rfl (by kernel_rfl) (by kernel_rfl) (by kernel_rfl) (fun _ _ _ h => h) (Or.inl ⟨by rfl, ?_⟩) hHeld ?_
                rotate_left
                · (intro wz hSw; (try dsimp only at hSw); (try simp only [List.getElem_toArray, List.getElem_cons_succ, List.getElem_cons_zero]); go_simp; try with_reducible rfl)
                try simp only [List.getElem_toArray, List.getElem_cons_succ, List.getElem_cons_zero, Act.put, List.setIfInBounds_toArray, List.set_cons_zero, List.set_cons_succ]
                refine wpAnyH_take (i := 6) (v := ?_) rfl (by kernel_rfl) (by kernel_rfl) (by kernel_rfl) (fun _ _ _ h => h) (Or.inl ⟨by rfl, ?_⟩) hHeld ?_
                rotate_left
                · (intro wz hSw; (try dsimp only at hSw); (try simp only [List.getElem_toArray, List.getElem_cons_succ, List.getElem_cons_zero]); go_simp; try with_reducible rfl)
                try simp only [List.getElem_toArray, List.getElem_cons_succ, List.getElem_cons_zero, Act.put, List.setIfInBounds_toArray, List.set_cons_zero, List.set_cons_succ]
                refine wpAnyH_take (i := 7) (v := ?_) rfl (by kernel_rfl) (by kernel_rfl) (by kernel_rfl) (fun _ _ _ h => h) (Or.inl ⟨by rfl, ?_⟩) hHeld ?_
                rotate_left
                · (intro wz hSw; (try dsimp only at hSw); (try simp only [List.getElem_toArray, List.getElem_cons_succ, List.getElem_cons_zero]); go_simp; try with_reducible rfl)
                try simp only [List.getElem_toArray, List.getElem_cons_succ, List.getElem_cons_zero, Act.put, List.setIfInBounds_toArray, List.set_cons_zero, List.set_cons_succ]
                refine wpAnyH_take (i := 8) (v := ?_) rfl (by kernel_rfl) (by kernel_rfl) (by kernel_rfl) (fun _ _ _ h => h) (Or.inl ⟨by rfl, ?_⟩) hHeld ?_
                rotate_left
                · (intro wz hSw; (try dsimp only at hSw); (try simp only [List.getElem_toArray, List.getElem_cons_succ, List.getElem_cons_zero]); go_simp; try with_reducible rfl)
                try simp only [List.getElem_toArray, List.getElem_cons_succ, List.getElem_cons_zero, Act.put, List.setIfInBounds_toArray, List.set_cons_zero, List.set_cons_succ]
                refine wpAnyH_take (i := 9) (v := ?_) rfl (by kernel_rfl) (by kernel_rfl) (by kernel_rfl) (fun _ _ _ h => h) (Or.inl ⟨by rfl, ?_⟩) hHeld ?_
                rotate_left
                · (intro wz hSw; (try dsimp only at hSw); (try simp only [List.getElem_toArray, List.getElem_cons_succ, List.getElem_cons_zero]); go_simp; try with_reducible rfl)
                try simp only [List.getElem_toArray, List.getElem_cons_succ, List.getElem_cons_zero, Act.put, List.setIfInBounds_toArray, List.set_cons_zero, List.set_cons_succ]
                refine wpAnyH_take (i := 10) (v := ?_) rfl (by kernel_rfl) (by kernel_rfl) (by kernel_rfl) (fun _ _ _ h => h) (Or.inl ⟨by rfl, ?_⟩) hHeld ?_
                rotate_left
                · (intro wz hSw; (try dsimp only at hSw); (try simp only [List.getElem_toArray, List.getElem_cons_succ, List.getElem_cons_zero]); go_simp; try with_reducible rfl)
                try simp only [List.getElem_toArray, List.getElem_cons_succ, List.getElem_cons_zero, Act.put, List.setIfInBounds_toArray, List.set_cons_zero, List.set_cons_succ]
                refine wpAnyH_take (i := 11) (v := ?_) rfl (by kernel_rfl) (by kernel_rfl) (by kernel_rfl) (fun _ _ _ h => h) (Or.inl ⟨by rfl, ?_⟩) hHeld ?_
                rotate_left
                · (intro wz hSw; (try dsimp only at hSw); (try simp only [List.getElem_toArray, List.getElem_cons_succ, List.getElem_cons_zero]); go_simp; try with_reducible rfl)
                try simp only [List.getElem_toArray, List.getElem_cons_succ, List.getElem_cons_zero, Act.put, List.setIfInBounds_toArray, List.set_cons_zero, List.set_cons_succ]
                refine wpAnyH_take (i := 12) (v := ?_) rfl (by kernel_rfl) (by kernel_rfl) (by kernel_rfl) (fun _ _ _ h => h) (Or.inl ⟨by rfl, ?_⟩) hHeld ?_
                rotate_left
                · (intro wz hSw; (try dsimp only at hSw); (try simp only [List.getElem_toArray, List.getElem_cons_succ, List.getElem_cons_zero]); go_simp; try with_reducible rfl)
                try simp only [List.getElem_toArray, List.getElem_cons_succ, List.getElem_cons_zero, Act.put, List.setIfInBounds_toArray, List.set_cons_zero, List.set_cons_succ]
                refine wpAnyH_take (i := 13) (v := ?_) rfl (by kernel_rfl) (by kernel_rfl) (by kernel_rfl) (fun _ _ _ h => h) (Or.inl ⟨by rfl, ?_⟩) hHeld ?_
                rotate_left
                · (intro wz hSw; (try dsimp only at hSw); (try simp only [List.getElem_toArray, List.getElem_cons_succ, List.getElem_cons_zero]); go_simp; try with_reducible rfl)
                try simp only [List.getElem_toArray, List.getElem_cons_succ, List.getElem_cons_zero, Act.put, List.setIfInBounds_toArray, List.set_cons_zero, List.set_cons_succ]
                refine wpAnyH_take (i := 14) (v := ?_) rfl (by kernel_rfl) (by kernel_rfl) (by kernel_rfl) (fun _ _ _ h => h) (Or.inl ⟨by rfl, ?_⟩) hHeld ?_
                rotate_left
                · (intro wz hSw; (try dsimp only at hSw); (try simp only [List.getElem_toArray, List.getElem_cons_succ, List.getElem_cons_zero]); go_simp; try with_reducible rfl)
                try simp only [List.getElem_toArray, List.getElem_cons_succ, List.getElem_cons_zero, Act.put, List.setIfInBounds_toArray, List.set_cons_zero, List.set_cons_succ]
                refine wpAnyH_take (i := 15) (v := ?_) rfl (by kernel_rfl) (by kernel_rfl) (by kernel_rfl) (fun _ _ _ h => h) (Or.inl ⟨by rfl, ?_⟩) hHeld ?_
                rotate_left
                · (intro wz hSw; (try dsimp only at hSw); (try simp only [List.getElem_toArray, List.getElem_cons_succ, List.getElem_cons_zero]); go_simp; try with_reducible rfl)
                try simp only [List.getElem_toArray, List.getElem_cons_succ, List.getElem_cons_zero, Act.put, List.setIfInBounds_toArray, List.set_cons_zero, List.set_cons_succ]
                refine wpAnyH_take (i := 16) (v := ?_) rfl (by kernel_rfl) (by kernel_rfl) (by kernel_rfl) (fun _ _ _ h => h) (Or.inl ⟨by rfl, ?_⟩) hHeld ?_
                rotate_left
                · (intro wz hSw; (try dsimp only at hSw); (try simp only [List.getElem_toArray, List.getElem_cons_succ, List.getElem_cons_zero]); go_simp; try with_reducible rfl)
                try simp only [List.getElem_toArray, List.getElem_cons_succ, List.getElem_cons_zero, Act.put, List.setIfInBounds_toArray, List.set_cons_zero, List.set_cons_succ]
                refine wpAnyH_take (i := 17) (v := ?_) rfl (by kernel_rfl) (by kernel_rfl) (by kernel_rfl) (fun _ _ _ h => h) (Or.inl ⟨by rfl, ?_⟩) hHeld ?_
                rotate_left
                · (intro wz hSw; (try dsimp only at hSw); (try simp only [List.getElem_toArray, List.getElem_cons_succ, List.getElem_cons_zero]); go_simp; try with_reducible rfl)
                try simp only [List.getElem_toArray, List.getElem_cons_succ, List.getElem_cons_zero, Act.put, List.setIfInBounds_toArray, List.set_cons_zero, List.set_cons_succ]
                refine wpAnyH_take (i := 18) (v := ?_) rfl (by kernel_rfl) (by kernel_rfl) (by kernel_rfl) (fun _ _ _ h => h) (Or.inl ⟨by rfl, ?_⟩) hHeld ?_
                rotate_left
                · (intro wz hSw; (try dsimp only at hSw); (try simp only [List.getElem_toArray, List.getElem_cons_succ, List.getElem_cons_zero]); go_simp; try with_reducible rfl)
                try simp only [List.getElem_toArray, List.getElem_cons_succ, List.getElem_cons_zero, Act.put, List.setIfInBounds_toArray, List.set_cons_zero, List.set_cons_succ]
                refine wpAnyH_take (i := 19) (v := ?_) rfl (by kernel_rfl) (by kernel_rfl) (by kernel_rfl) (fun _ _ _ h => h) (Or.inl ⟨by rfl, ?_⟩) hHeld ?_
                rotate_left
                · (intro wz hSw; (try dsimp only at hSw); (try simp only [List.getElem_toArray, List.getElem_cons_succ, List.getElem_cons_zero]); go_simp; try with_reducible rfl)
                try simp only [List.getElem_toArray, List.getElem_cons_succ, List.getElem_cons_zero, Act.put, List.setIfInBounds_toArray, List.set_cons_zero, List.set_cons_succ]
                refine wpAnyH_take (i := 20) (v := ?_) rfl (by kernel_rfl) (by kernel_rfl) (by kernel_rfl) (fun _ _ _ h => h) (Or.inl ⟨by rfl, ?_⟩) hHeld ?_
                rotate_left
                · (intro wz hSw; (try dsimp only at hSw); (try simp only [List.getElem_toArray, List.getElem_cons_succ, List.getElem_cons_zero]); go_simp; try with_reducible rfl)
                try simp only [List.getElem_toArray, List.getElem_cons_succ, List.getElem_cons_zero, Act.put, List.setIfInBounds_toArray, List.set_cons_zero, List.set_cons_succ]
                refine wpAnyH_take (i := 21) (v := ?_) rfl (by kernel_rfl) (by kernel_rfl) (by kernel_rfl) (fun _ _ _ h => h) (Or.inl ⟨by rfl, ?_⟩) hHeld ?_
                rotate_left
                · (intro wz hSw; (try dsimp only at hSw); (try simp only [List.getElem_toArray, List.getElem_cons_succ, List.getElem_cons_zero]); go_simp; try with_reducible rfl)
                try simp only [List.getElem_toArray, List.getElem_cons_succ, List.getElem_cons_zero, Act.put, List.setIfInBounds_toArray, List.set_cons_zero, List.set_cons_succ]
                refine wpAnyH_ready (rs := [22]) (by kernel_rfl) (by simp) ?_; refine AllReadyH.cons rfl (fun K hK => ?_) AllReadyH.nil; (try simp only [List.getElem_toArray, List.getElem_cons_succ, List.getElem_cons_zero]); go_simp
                refine (says_any a w.heap.size G R m cv l x ys wd HCD.out hm HX.out HFX.out HRDD.out).mono ?_; rintro r0 w4 ⟨rfl, hb4, hy4⟩
                have HB4 := Lib.hid (HBD.out.trans hb4)
                refine hK.out _ _ (HBB.out w4 HB4.out) (fun _ => ?_)
                clear hK K hHeld hb4
                try simp only [List.getElem_toArray, List.getElem_cons_succ, List.getElem_cons_zero, Act.put, List.setIfInBounds_toArray, List.set_cons_zero, List.set_cons_succ]
                have hHeld := HBB.out w4 HB4.out
                cases hs : sayB a ys with
                | none =>
                  have HST : Hid (bldStep (some (life, l.map CoX.c)) (L.map RcX.xs)[k] = none) := by show _ = _; rw [HXK.out, HST0.out, hs]; rfl
                  clear hs hy4
                  refine wpAnyH_take (i := 23) (v := ?_) rfl (by kernel_rfl) (by kernel_rfl) (by kernel_rfl) (fun _ _ _ h => h) (Or.inl ⟨by rfl, ?_⟩) hHeld ?_
                  rotate_left
                  · (intro wz hSw; (try dsimp only at hSw); (try simp only [List.getElem_toArray, List.getElem_cons_succ, List.getElem_cons_zero]); go_simp; try with_reducible rfl)
                  try simp only [List.getElem_toArray, List.getElem_cons_succ, List.getElem_cons_zero, Act.put, List.setIfInBounds_toArray, List.set_cons_zero, List.set_cons_succ]
                  refine wpAnyH_take (i := 24) (v := ?_) rfl (by kernel_rfl) (by kernel_rfl) (by kernel_rfl) (fun _ _ _ h => h) (Or.inl ⟨by rfl, ?_⟩) hHeld ?_
                  rotate_left
                  · (intro wz hSw; (try dsimp only at hSw); (try simp only [List.getElem_toArray, List.getElem_cons_succ, List.getElem_cons_zero]); go_simp; try with_reducible rfl)
                  try simp only [List.getElem_toArray, List.getElem_cons_succ, List.getElem_cons_zero, Act.put, List.setIfInBounds_toArray, List.set_cons_zero, List.set_cons_succ]
                  refine wpAnyH_done (by kernel_rfl) ?_ _
                  refine NoPanic.normal ?_
                  clear hHeld
                  go_wp2_with fail
                  exact HQN.out _ _ rfl rfl rfl rfl (bld_fail hkm HF0.out HST.out) HB4.out
                | some rc =>
                  obtain ⟨y, hy, hcy⟩ := hy4 rc hs
                  rw [List.length_set] at hcy
                  have HST : Hid (bldStep (some (life, l.map CoX.c)) (L.map RcX.xs)[k] = some (life, (l.set m y).map CoX.c)) := by
                    show _ = _
                    rw [HXK.out, HST0.out, hs, List.map_set, hy]
                    simp only [Option.map_some, List.getElem_map, HX.out]
                  have HS2 : Hid (∃ (lf : Int) (l' : List CoX), Value.int .i64 life = .int .i64 lf ∧ ((L.map RcX.xs).take (k + 1)).foldl bldStep (some (0, js.map (newCo id))) = some (lf, l'.map CoX.c) ∧ LInv (k + 1) l' ∧ l'.length ≤ 1000 ∧ CsAt w.heap.size w4 (.slice (some ⟨G, 0, none⟩) l.length cv) l' ∧ Below w.heap.size w w4) := ⟨life, l.set m y, rfl, by rw [bld_next hkm HF0.out]; exact HST.out, HIN.out.say hm HOY.out hs (by rw [HX.out]; exact hy), by rw [List.length_set]; exact hln, hcy, HB4.out⟩
                  clear hs hy hcy hy4 HST HST0
                  refine wpAnyH_take (i := 23) (v := ?_) rfl (by kernel_rfl) (by kernel_rfl) (by kernel_rfl) (fun _ _ _ h => h) (Or.inl ⟨by rfl, ?_⟩) hHeld ?_
                  rotate_left
                  · (intro wz hSw; (try dsimp only at hSw); (try simp only [List.getElem_toArray, List.getElem_cons_succ, List.getElem_cons_zero]); go_simp; try with_reducible rfl)
                  try simp only [List.getElem_toArray, List.getElem_cons_succ, List.getElem_cons_zero, Act.put, List.setIfInBounds_toArray, List.set_cons_zero, List.set_cons_succ]
                  refine wpAnyH_take (i := 24) (v := ?_) rfl (by kernel_rfl) (by kernel_rfl) (by kernel_rfl) (fun _ _ _ h => h) (Or.inl ⟨by rfl, ?_⟩) hHeld ?_
                  rotate_left
                  · (intro wz hSw; (try dsimp only at hSw); (try simp only [List.getElem_toArray, List.getElem_cons_succ, List.getElem_cons_zero]); go_simp; try with_reducible rfl)
                  try simp only [List.getElem_toArray, List.getElem_cons_succ, List.getElem_cons_zero, Act.put, List.setIfInBounds_toArray, List.set_cons_zero, List.set_cons_succ]
                  refine wpAnyH_done (by kernel_rfl) ?_ _
                  refine NoPanic.normal ?_
                  clear hHeld
                  go_wp2_with fail
                  go_roundw
                  case rel => exact ⟨k + 1, by omega, by go_num, HS2⟩
                  case measure => simp [intOf]; omega
        · obtain rfl : k = L.length := by omega
          have hdL : decide ((L.length : Int) < (L.length : Int)) = false := by simp
          obtain ⟨life, l, rfl, hf0, -, hln, hcs, hbw⟩ := HS.out
          obtain ⟨vk, rfl⟩ : ∃ vk : Value, vk = u7 := ⟨_, rfl⟩
          rw [List.take_of_length_le (by simp)] at hf0
          have HF0 := Lib.hid (show bld id js (L.map RcX.xs) = some (life, l.map CoX.c) from hf0)
          obtain ⟨pv, cv, rfl⟩ := own_slice hcs.own
          have HS3 : Hid (CsAt w.heap.size wk (.slice pv l.length cv) (endL l 0) ∧ Below w.heap.size w wk) := ⟨hcs, hbw⟩
          clear hf0 hcs hbw HS hkm
          go_wp2_with fail
          go_loopw [80] (fun i wr => ∃ k : Nat, k ≤ l.length ∧ i = .int .i64 k ∧ Hid (CsAt w.heap.size wr (.slice pv l.length cv) (endL l k) ∧ Below w.heap.size w wr)) (fun i _ => l.length - (intOf i).toNat)
          case atStart => exact ⟨0, Nat.zero_le _, rfl, HS3⟩
          case round =>
            clear HS3
            obtain ⟨k, hk, rfl, HS⟩ := hrel
            obtain ⟨wk, rfl⟩ : ∃ wk : World, wk = wr := ⟨_, rfl⟩
            by_cases hlt : k < l.length
            · have hd : decide ((k : Int) < (l.length : Int)) = true := by simp; omega
              have HC := Lib.hid HS.out.1; have HB := Lib.hid HS.out.2
              obtain ⟨G, rfl⟩ : ∃ G, pv = some ⟨G, 0, none⟩ := by
                rcases HC.out.own.2 with ⟨h', hz⟩ | ⟨g', cap', cur, h', _⟩
                · rw [endL_len] at hz; omega
                · simp only [Value.slice.injEq] at h'; exact ⟨g', h'.1⟩
              have hC := HC.out
              rw [show l.length = (endL l k).length from (endL_len l k).symm] at hC
              have hn : k < (endL l k).length := by rw [endL_len]; exact hlt
              have hx : (endL l k)[k] = l[k] := endL_at l hlt
              have k8 : wk.cell? ⟨G, k * 45 + 8, none⟩ = some (.int .i64 l[k].c.l.b) := by rw [hC.cell hn 8 (by decide), hx]; rfl
              have k6 : wk.cell? ⟨G, k * 45 + 6, none⟩ = some (.int .i64 l[k].c.cm) := by rw [hC.cell hn 6 (by decide), hx]; rfl
              have fG := hC.free
              have hp := hC.put hn 6 (by decide) (endX l[k]) (.int .i64 l[k].c.l.b) (by rw [hx]; rfl) (show CoOwn w.heap.size wk (endX l[k]) from (hx ▸ hC.en _ (List.getElem_mem hn) : CoOwn w.heap.size wk l[k]))
              rw [List.length_set, endL_len, endL_next l hlt] at hp
              have HP : Hid (CsAt w.heap.size (wk.setCell ⟨G, k * 45 + 6, none⟩ (.int .i64 l[k].c.l.b)) (.slice (some ⟨G, 0, none⟩) l.length cv) (endL l (k + 1)) ∧ Below w.heap.size w (wk.setCell ⟨G, k * 45 + 6, none⟩ (.int .i64 l[k].c.l.b))) := ⟨hp.1, HB.out.trans hp.2⟩
              obtain ⟨bb, hbb⟩ : ∃ z, l[k].c.l.b = z := ⟨_, rfl⟩
              rw [hbb] at k8 HP
              clear hC hp hx hn HS HC HB hbb
              go_wp2_with fail
              go_roundw
              case rel => exact ⟨k + 1, by omega, by go_num, HP⟩
              case measure => simp [intOf]; omega
            · obtain rfl : k = l.length := by omega
              have hd : decide ((l.length : Int) < (l.length : Int)) = false := by simp
              have HC := Lib.hid HS.out.1; have HB := Lib.hid HS.out.2
              clear HS
              go_wp2_with fail
              exact HQY.out _ _ life _ (l.map CoX.c) (endL l l.length) rfl rfl rfl rfl HF0.out (endL_all l) HC.out HB.out
end Go.Proofs.Ytjaabakobpabjaa
