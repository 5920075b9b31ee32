/- Hard: lists of byte strings: how many bytes there are at most, twins of all, whether all were kept; how long built logs are. -/
import Derived.Test.YtjaabakobpabjaaHardE
import Derived.Test.YtjaabakobpabjaaHsG
import Derived.Test.YtjaabakobpabjaaStampTk
namespace Go.Proofs.Ytjaabakobpabjaa
open Go.ChangeShapes Go.WideShapes Go.ChangeAt Go.RowKit

theorem apRc_len {c : Co} (rc : Rc) {k : Nat} (h : c.l.es.length ≤ k) : (apRc c rc).l.es.length ≤ k + 1 := by
  cases rc with
  | hd tm vt => exact Nat.le_succ_of_le h
  | sn b bt j s => have := snL_len c.l b bt (jnX j); show (snL c.l b bt (jnX j)).es.length ≤ _; omega
  | en i e =>
    unfold apRc
    dsimp only
    split
    · show (_ ++ [e]).length ≤ _
      rw [List.length_append, List.length_take, List.length_singleton]; omega
    · omega
  | ct i => show (List.take _ _).length ≤ _; rw [List.length_take]; omega
theorem bldStep_len {k : Nat} {s s' : Int × List Co} {xs : List Int} (h : ∀ c ∈ s.2, c.l.es.length ≤ k) (hs : bldStep (some s) xs = some s') : ∀ c ∈ s'.2, c.l.es.length ≤ k + 1 := by
  obtain ⟨life, cs⟩ := s
  have up : ∀ c ∈ cs, c.l.es.length ≤ k + 1 := fun c hc => Nat.le_succ_of_le (h c hc)
  cases xs with
  | nil => simp [bldStep] at hs
  | cons a t =>
    unfold bldStep at hs
    dsimp only at hs
    split at hs
    · split at hs
      · simp only [Option.some.injEq] at hs; subst hs; exact up
      · cases hs
    · split at hs
      · cases hs
      · split at hs
        · rename_i rc c h1 h2
          simp only [Option.some.injEq] at hs; subst hs
          intro c' hc'
          rcases List.mem_or_eq_of_mem_set hc' with hc' | rfl
          · exact up _ hc'
          · exact apRc_len rc (h c (List.mem_of_getElem? h2))
        · cases hs
theorem bld_lenF : ∀ (R : List (List Int)) {k : Nat} {s s' : Int × List Co} (_ : ∀ c ∈ s.2, c.l.es.length ≤ k) (_ : R.foldl bldStep (some s) = some s'), ∀ c ∈ s'.2, c.l.es.length ≤ k + R.length
  | [], k, s, s', h, hs => by simp only [List.foldl_nil, Option.some.injEq] at hs; subst hs; simpa using h
  | x :: R, k, s, s', h, hs => by
    rw [List.foldl_cons] at hs
    cases hb : bldStep (some s) x with
    | none => rw [hb, bld_none] at hs; cases hs
    | some s1 =>
      rw [hb] at hs
      intro c hc
      have := bld_lenF R (bldStep_len h hb) hs c hc
      rw [List.length_cons]; omega
theorem bld_len {id : Int} {js : List Jn} {R : List (List Int)} {life : Int} {cs : List Co} (h : bld id js R = some (life, cs)) : ∀ c ∈ cs, c.l.es.length ≤ R.length := fun c hc => by
  have := bld_lenF R (k := 0) (s := (0, js.map (newCo id))) (fun c hc => by
    obtain ⟨j, -, rfl⟩ := List.mem_map.1 hc
    exact Nat.le_refl 0) h c hc
  omega
/-- What Build tells, in one form. -/
def bldR (o : Option (Int × List Co)) : Int × Int × List Co := match o with
  | none => (0, 9, [])
  | some (life, cs) => (life, 0, cs.map endCo)
theorem BldEnd.one {w w' : World} {o : Option (Int × List Co)} {e : Ending} (h : BldEnd w o e w') : ∃ v l, e = .returned (.tuple #[.int .i64 (bldR o).1, v, .int .i64 (bldR o).2.1]) ∧ l.map CoX.c = (bldR o).2.2 ∧ CsAt w.heap.size w' v l ∧ Below w.heap.size w w' := by
  obtain ⟨hb, h⟩ := h
  cases o with
  | none => exact ⟨_, [], h, rfl, CsAt.nil _ _, hb⟩
  | some s =>
    obtain ⟨life, cs⟩ := s
    obtain ⟨v, l, h1, h2, h3⟩ := h
    exact ⟨v, l, h1, h2, h3, hb⟩
theorem bldR_len {id : Int} {js : List Jn} {R : List (List Int)} : ∀ c ∈ (bldR (bld id js R)).2.2, c.l.es.length ≤ R.length := by
  cases h : bld id js R with
  | none => intro c hc; cases hc
  | some s =>
    obtain ⟨life, cs⟩ := s
    intro c hc
    obtain ⟨d, hd, rfl⟩ := List.mem_map.1 hc
    exact bld_len h d hd
set_option maxRecDepth 100000 in
set_option maxHeartbeats 4000000 in
theorem sum_any (B : Nat) (L : List RcX) (q : Option Addr) (c : Nat) (w : World) (hr : RcAt B w q L) (hl : L.length ≤ 1000) (ho : ∀ r ∈ L, (r.xs.length : Int) ≤ 9223372036854775807) :
    Calls Try.prog 7 #[.slice q L.length c, .int .i64 6000] w fun e w' => (∃ m : Int, e = .returned (.int .i64 m) ∧ (m ≤ 6000 → ∀ r ∈ L, r.xs.length ≤ 6000)) ∧ w = w' := by
  have HR := Lib.hid hr; have HO := Lib.hid ho
  clear hr ho
  go_enter Try.func7, Try.ntmps7
  go_wp2_with fail
  go_loopw [5, 6] (fun s i wr => ∃ (k m : Nat), k ≤ L.length ∧ s = .int .i64 m ∧ i = .int .i64 k ∧ m ≤ 12000 ∧ Hid (∀ j, j < k → ∀ hj' : j < L.length, (L[j]).xs.length ≤ 6000) ∧ w = wr) (fun _ i _ => L.length - (intOf i).toNat)
  case atStart => exact ⟨0, 0, Nat.zero_le _, rfl, rfl, Nat.zero_le _, fun j hj => absurd hj (Nat.not_lt_zero _), rfl⟩
  case round =>
    obtain ⟨k, m, hk, rfl, rfl, hm, HK, rfl⟩ := hrel
    by_cases hlt : k < L.length
    · have hd : decide ((k : Int) < (L.length : Int)) = true := by simp; omega
      by_cases hm6 : m ≤ 6000
      · have hd2 : decide ((m : Int) ≤ 6000) = true := by simp; omega
        obtain ⟨g, o, rfl, -, hc, -⟩ := HR.out k hlt
        obtain ⟨x, hx⟩ : ∃ x, L[k] = x := ⟨_, rfl⟩
        have hox := HO.out x (by rw [← hx]; exact List.getElem_mem hlt)
        rw [hx] at hc
        have HXX := Lib.hid hx
        clear hx
        by_cases h6 : x.xs.length ≤ 6000
        · have HK2 : Hid (∀ j, j < k + 1 → ∀ hj' : j < L.length, (L[j]).xs.length ≤ 6000) := fun j hj hj' => by
            by_cases e : j = k
            · subst e; rw [HXX.out]; exact h6
            · exact HK.out j (by omega) hj'
          clear HK HXX
          go_wp2_with fail
          go_roundw
          case rel => exact ⟨k + 1, m + x.xs.length, by omega, by go_num, by go_num, by omega, HK2, by trivial⟩
          case measure => simp [intOf]; omega
        · go_wp2_with fail
          go_ret
          exact ⟨⟨6001, rfl, fun h => absurd h (by decide)⟩, rfl⟩
      · have hd2 : decide ((m : Int) ≤ 6000) = false := by simp; omega
        go_wp2_with fail
        go_ret
        exact ⟨⟨m, rfl, fun h => absurd h (by omega)⟩, rfl⟩
    · obtain rfl : k = L.length := by omega
      have hd : decide ((L.length : Int) < (L.length : Int)) = false := by simp
      have HK2 := Lib.hid (show ∀ r ∈ L, r.xs.length ≤ 6000 from fun r hr => by
        obtain ⟨j, hj, rfl⟩ := List.mem_iff_getElem.1 hr
        exact HK.out j hj hj)
      clear HK
      go_wp2_with fail
      go_ret
      exact ⟨⟨m, rfl, fun _ => HK2.out⟩, rfl⟩
/-- Twins in a row of the call's own: each a block of its own, rising. -/
def twV (x : Nat × List Int) : Value := .slice (some ⟨x.1, 0, none⟩) x.2.length (x.2.length + 3)
structure TwW (base : Nat) (w : World) (v : Value) (M : List (Nat × List Int)) : Prop where
  own : w.ownsRow base 32 1 v M.length (M.map twV)
  el : ∀ x ∈ M, base ≤ x.1 ∧ w.heap[x.1]? = some (.cells (byt (x.2 ++ [229, 229, 229])).toArray 5 (0, 0))
  up : M.Pairwise (fun a b => a.1 < b.1)
theorem TwW.nil (base : Nat) (w : World) : TwW base w (.slice none 0 0) [] := ⟨⟨rfl, .inl ⟨rfl, rfl⟩⟩, fun x hx => absurd hx (by simp), .nil⟩
theorem TwW.keep {base : Nat} {w w' : World} {v : Value} {M : List (Nat × List Int)} (h : TwW base w v M) (hb : Below w.heap.size w w') : TwW base w' v M := ⟨own_keptH h.own hb, fun x hx => ⟨(h.el x hx).1, below_block hb (block_lt (h.el x hx).2) (h.el x hx).2⟩, h.up⟩
theorem TwW.mono {base base' : Nat} {w : World} {v : Value} {M : List (Nat × List Int)} (h : TwW base w v M) (hb : base' ≤ base) : TwW base' w v M := ⟨h.own.mono hb, fun x hx => ⟨Nat.le_trans hb (h.el x hx).1, (h.el x hx).2⟩, h.up⟩
theorem TwW.app {base : Nat} {w w' : World} {v v' : Value} {M : List (Nat × List Int)} {g : Nat} {xs : List Int} (h : TwW base w v M) (hg : base ≤ g) (hlt : ∀ x ∈ M, x.1 < g) (hrow : w.heap[g]? = some (.cells (byt (xs ++ [229, 229, 229])).toArray 5 (0, 0)))
    (h2 : w'.ownsRow base 32 1 v' (M.length + 1) (M.map twV ++ [twV (g, xs)])) (h3 : w.grownBy w' v.ownBlock) : TwW base w' v' (M ++ [(g, xs)]) := by
  refine ⟨?_, fun y hy => ?_, ?_⟩
  · rw [List.length_append, List.map_append]; exact h2
  · rcases List.mem_append.1 hy with hy | hy
    · exact ⟨(h.el y hy).1, blk_keep (h.el y hy).2 h.own (by decide) h3⟩
    · rw [List.mem_singleton] at hy; rw [hy]; exact ⟨hg, blk_keep hrow h.own (by decide) h3⟩
  · rw [List.pairwise_append]
    refine ⟨h.up, by simp, fun a ha b hb => ?_⟩
    rw [List.mem_singleton] at hb; rw [hb]; exact hlt a ha
set_option maxRecDepth 100000 in
set_option maxHeartbeats 4000000 in
theorem twins_any (B : Nat) (L : List RcX) (q : Option Addr) (c : Nat) (w : World) (hr : RcAt B w q L) (hB : B ≤ w.heap.size) (hl : L.length ≤ 1000) (hs : ∀ r ∈ L, r.xs.length ≤ 6000) :
    Calls Try.prog 8 #[.slice q L.length c] w fun e w' => ∃ v M, e = .returned v ∧ M.map (·.2) = L.map RcX.xs ∧ TwW w.heap.size w' v M ∧ Below w.heap.size w w' := by
  obtain ⟨i0, hi0, hz0, hz1, hz2⟩ := info_parts Try.infoBs
  have HR := Lib.hid hr; have HS := Lib.hid hs
  clear hr hs
  go_enter Try.func8, Try.ntmps8
  go_wp2_with fail
  go_loopw [3, 4] (fun u i wr => ∃ k : Nat, k ≤ L.length ∧ i = .int .i64 k ∧ Hid (∃ M, M.map (·.2) = (L.take k).map RcX.xs ∧ TwW w.heap.size wr u M ∧ Below w.heap.size w wr)) (fun _ i _ => L.length - (intOf i).toNat)
  case atStart => exact ⟨0, Nat.zero_le _, rfl, [], rfl, TwW.nil _ _, Below.refl _ _⟩
  case round =>
    obtain ⟨k, hk, rfl, HM⟩ := hrel
    obtain ⟨wk, rfl⟩ : ∃ wk : World, wk = wr := ⟨_, rfl⟩
    obtain ⟨vk, rfl⟩ : ∃ vk : Value, vk = u3 := ⟨_, rfl⟩
    by_cases hlt : k < L.length
    · have hd : decide ((k : Int) < (L.length : Int)) = true := by simp; omega
      obtain ⟨M, hM, hT, hbw⟩ := HM.out
      obtain ⟨g, o, rfl, hg, hc, hsl⟩ := HR.out k hlt
      obtain ⟨x, hx⟩ : ∃ x, L[k] = x := ⟨_, rfl⟩
      have h6 := HS.out x (by rw [← hx]; exact List.getElem_mem hlt)
      rw [hx] at hc hsl
      have hml : M.length = k := by have := congrArg List.length hM; simpa [List.length_take, Nat.min_eq_left (Nat.le_of_lt hlt)] using this
      have HX := Lib.hid hx; have HMM := Lib.hid hM; have HT := Lib.hid hT; have HBW := Lib.hid hbw; have HML := Lib.hid hml
      have hcell := (hbw.cell (p := ⟨g, o + k, none⟩) (show g < w.heap.size by omega)).trans hc
      have HC := Lib.hid (twin_any B (.slice x.p x.xs.length x.c) x.xs wk (hsl.keep (hbw.mono hB)) (Nat.le_trans hB hbw.size) (by omega))
      clear hM hT hbw hml hx hc hsl HM hg
      go_wp2_with fail
      refine HC.out.mono ?_; rintro e w1 ⟨g1, rfl, hg1, hrow1, hb1⟩
      have hbx : Below w1.heap.size w1 (w1.alloc (.cells #[.slice (some ⟨g1, 0, none⟩) x.xs.length (x.xs.length + 3)] 32)) := (Below.refl _ _).alloc (Nat.le_refl _) _
      have HWx := Lib.hid ((HT.out.keep hb1).keep hbx)
      have HBx := Lib.hid (HBW.out.trans ((hb1.trans (hbx.mono hb1.size)).mono HBW.out.size))
      have HRx := Lib.hid (below_block hbx (block_lt hrow1) hrow1)
      have HLT := Lib.hid (show ∀ y ∈ M, y.1 < g1 from fun y hy => Nat.lt_of_lt_of_le (block_lt (HT.out.el y hy).2) hg1)
      have HG1 := Lib.hid (Nat.le_trans HBW.out.size hg1)
      have HQx : Hid ((w1.alloc (.cells #[.slice (some ⟨g1, 0, none⟩) x.xs.length (x.xs.length + 3)] 32)).heap[w1.heap.size]? = some (.cells #[.slice (some ⟨g1, 0, none⟩) x.xs.length (x.xs.length + 3)] 32 (0, 0))) := heap_last w1 _
      clear hbx hb1 hrow1 hg1 HT HBW HC
      go_wp2_with (at_builtin; go_loud (refine wpList_append_sl_at rfl _ _ 23 rfl w.heap.size 32 i0 (.slice none 0 0) 1 24 Try.underlying23 hi0 hz0 hz1 hz2 rfl (by decide) vk M.length (M.map twV) rfl HWx.out.own _ _ 1 [.slice (some ⟨g1, 0, none⟩) x.xs.length (x.xs.length + 3)] rfl (sl_oneB HQx.out) (by intro u hu; rw [List.mem_singleton] at hu; rw [hu]; rfl) ?d1 ?d2 ?d3 ?_))
      case d1 => have := HML.out; unfold maxLen; omega
      case d2 => have := HML.out; omega
      case d3 => exact HBx.out.size
      intro v4 w4 h2 h3 h4
      have HM2 : Hid (∃ M, M.map (·.2) = (L.take (k + 1)).map RcX.xs ∧ TwW w.heap.size w4 v4 M ∧ Below w.heap.size w w4) := ⟨M ++ [(g1, x.xs)], by rw [List.map_append, HMM.out, List.take_succ_eq_append_getElem hlt, List.map_append, HX.out]; rfl, HWx.out.app HG1.out HLT.out HRx.out h2 h3, HBx.out.grown h3 HBx.out.size (fun b hb => (HWx.out.own.lt b hb).1)⟩
      clear h2 h3 h4 HWx HBx HRx HLT HG1 HQx HMM HX
      go_wp2_with fail
      go_roundw
      case rel => exact ⟨k + 1, by omega, by go_num, HM2⟩
      case measure => simp [intOf]; omega
    · obtain rfl : k = L.length := by omega
      have hd : decide ((L.length : Int) < (L.length : Int)) = false := by simp
      obtain ⟨M, hM, hT, hbw⟩ := HM.out
      rw [List.take_of_length_le (Nat.le_refl _)] at hM
      clear HM
      go_wp2_with fail
      go_ret
      exact ⟨_, M, rfl, hM, hT, hbw⟩
set_option maxRecDepth 100000 in
set_option maxHeartbeats 4000000 in
theorem allkept_any (B base : Nat) (L : List RcX) (M : List (Nat × List Int)) (v : Value) (q : Option Addr) (c : Nat) (w : World) (hr : RcAt B w q L) (hT : TwW base w v M) (hM : M.map (·.2) = L.map RcX.xs) (hB : B ≤ w.heap.size) (hl : L.length ≤ 1000) (hs : ∀ r ∈ L, r.xs.length ≤ 6000) :
    Calls Try.prog 11 #[v, .slice q L.length c] w fun e w' => e = .returned (.bool true) ∧ Below w.heap.size w w' := by
  obtain ⟨p, cv, rfl⟩ := own_formH hT.own
  have hml : M.length = L.length := by have := congrArg List.length hM; simpa using this
  have hown := hT.own
  rw [hml] at hown
  rw [hml]
  have HR := Lib.hid hr; have HS := Lib.hid hs; have HMM := Lib.hid hM; have HOW := Lib.hid hown; have HEL := Lib.hid hT.el; have HML := Lib.hid hml
  clear hr hs hM hT hml hown
  go_enter Try.func11, Try.ntmps11
  go_wp2_with fail
  go_loopw [5] (fun i wr => ∃ k : Nat, k ≤ L.length ∧ i = .int .i64 k ∧ Below w.heap.size w wr) (fun i _ => L.length - (intOf i).toNat)
  case atStart => exact ⟨0, Nat.zero_le _, rfl, Below.refl _ _⟩
  case round =>
    obtain ⟨k, hk, rfl, hbw⟩ := hrel
    obtain ⟨wk, rfl⟩ : ∃ wk : World, wk = wr := ⟨_, rfl⟩
    by_cases hlt : k < L.length
    · have hd : decide ((k : Int) < (L.length : Int)) = true := by simp; omega
      have hltM : k < M.length := by rw [HML.out]; exact hlt
      obtain ⟨ga, rfl, hga, hca⟩ := own_atH HOW.out hlt
      obtain ⟨gb, ob, rfl, hgb, hcb, hsl⟩ := HR.out k hlt
      obtain ⟨x, hx⟩ : ∃ x, L[k] = x := ⟨_, rfl⟩
      obtain ⟨⟨g, ys⟩, hy⟩ : ∃ y, M[k] = y := ⟨_, rfl⟩
      have hys : ys = x.xs := by
        have h1 : (M.map (·.2))[k]? = some ys := by rw [List.getElem?_map, List.getElem?_eq_getElem hltM, hy]; rfl
        rw [HMM.out, List.getElem?_map, List.getElem?_eq_getElem hlt, hx] at h1
        simpa using h1.symm
      subst hys
      have h6 := HS.out x (by rw [← hx]; exact List.getElem_mem hlt)
      have hel := HEL.out (g, x.xs) (by rw [← hy]; exact List.getElem_mem hltM)
      rw [hx] at hcb hsl
      have ka : ∀ w', Below w.heap.size w w' → w'.cell? ⟨ga, k, none⟩ = some (.slice (some ⟨g, 0, none⟩) x.xs.length (x.xs.length + 3)) := fun w' h => by rw [h.cell (p := ⟨ga, k, none⟩) hga, hca k hlt, List.getElem?_map, List.getElem?_eq_getElem hltM, hy]; rfl
      have kb : ∀ w', Below w.heap.size w w' → w'.cell? ⟨gb, ob + k, none⟩ = some (.slice x.p x.xs.length x.c) := fun w' h => by rw [h.cell (p := ⟨gb, ob + k, none⟩) (show gb < w.heap.size by omega), hcb]
      have HKC := Lib.hid (show ∀ w', Below w.heap.size w w' → Calls Try.prog 35 #[.slice (some ⟨g, 0, none⟩) x.xs.length (x.xs.length + 3), .slice x.p x.xs.length x.c] w' fun e w2 => e = .returned (.bool true) ∧ w' = w2 from fun w' h => kept_any B _ x.xs g w' (hsl.keep (h.mono hB)) (by omega) (below_block h (block_lt hel.2) hel.2))
      have hkm : (k : Int) < (L.length : Int) := by omega
      have hk0 : 0 ≤ (k : Int) := by omega
      clear hca hcb hx hy hel hsl
      go_upto_region 4 with fail
      have h0 : Below w.heap.size w wk.drew := hbw.drew
      refine wp_region_held_drew (S := fun w' => Below w.heap.size w w') (by kernel_rfl) h0 (fun hHeld => ?_)
      obtain ⟨wd, ewd⟩ : ∃ x, wk.drew = x := ⟨_, rfl⟩
      rw [ewd] at h0 hHeld ⊢
      clear ewd
      refine wpAnyH_take (i := 0) (v := ?_) rfl (by kernel_rfl) (by kernel_rfl) (by kernel_rfl) (fun _ _ _ h => h) (Or.inl ⟨by rfl, ?_⟩) hHeld ?_
      rotate_left
      · (intro wz hSw; (try dsimp only at hSw); (try simp only [List.getElem_toArray, List.getElem_cons_zero]); go_simp; try with_reducible rfl)
      try simp only [List.getElem_toArray, List.getElem_cons_zero, Act.put, List.setIfInBounds_toArray, List.set_cons_zero, List.set_cons_succ]
      refine wpAnyH_take (i := 1) (v := ?_) rfl (by kernel_rfl) (by kernel_rfl) (by kernel_rfl) (fun _ _ _ h => h) (Or.inl ⟨by rfl, ?_⟩) hHeld ?_
      rotate_left
      · (intro wz hSw; (try dsimp only at hSw); (try simp only [List.getElem_toArray, List.getElem_cons_succ, List.getElem_cons_zero]); go_simp; try with_reducible rfl)
      try simp only [List.getElem_toArray, List.getElem_cons_succ, List.getElem_cons_zero, Act.put, List.setIfInBounds_toArray, List.set_cons_zero, List.set_cons_succ]
      refine wpAnyH_take (i := 2) (v := ?_) rfl (by kernel_rfl) (by kernel_rfl) (by kernel_rfl) (fun _ _ _ h => h) (Or.inl ⟨by rfl, ?_⟩) hHeld ?_
      rotate_left
      · (intro wz hSw; (try dsimp only at hSw); (try simp only [List.getElem_toArray, List.getElem_cons_succ, List.getElem_cons_zero]); go_simp; try with_reducible rfl)
      try simp only [List.getElem_toArray, List.getElem_cons_succ, List.getElem_cons_zero, Act.put, List.setIfInBounds_toArray, List.set_cons_zero, List.set_cons_succ]
      refine wpAnyH_take (i := 3) (v := ?_) rfl (by kernel_rfl) (by kernel_rfl) (by kernel_rfl) (fun _ _ _ h => h) (Or.inl ⟨by rfl, ?_⟩) hHeld ?_
      rotate_left
      · (intro wz hSw; (try dsimp only at hSw); (try simp only [List.getElem_toArray, List.getElem_cons_succ, List.getElem_cons_zero]); go_simp; try with_reducible rfl)
      try simp only [List.getElem_toArray, List.getElem_cons_succ, List.getElem_cons_zero, Act.put, List.setIfInBounds_toArray, List.set_cons_zero, List.set_cons_succ]
      refine wpAnyH_take (i := 4) (v := ?_) rfl (by kernel_rfl) (by kernel_rfl) (by kernel_rfl) (fun _ _ _ h => h) (Or.inl ⟨by rfl, ?_⟩) hHeld ?_
      rotate_left
      · (intro wz hSw; (try dsimp only at hSw); (try simp only [List.getElem_toArray, List.getElem_cons_succ, List.getElem_cons_zero]); go_simp; try with_reducible rfl)
      try simp only [List.getElem_toArray, List.getElem_cons_succ, List.getElem_cons_zero, Act.put, List.setIfInBounds_toArray, List.set_cons_zero, List.set_cons_succ]
      refine wpAnyH_take (i := 5) (v := ?_) rfl (by kernel_rfl) (by kernel_rfl) (by kernel_rfl) (fun _ _ _ h => h) (Or.inl ⟨by rfl, ?_⟩) hHeld ?_
      rotate_left
      · (intro wz hSw; (try dsimp only at hSw); (try simp only [List.getElem_toArray, List.getElem_cons_succ, List.getElem_cons_zero]); go_simp; try with_reducible rfl)
      try simp only [List.getElem_toArray, List.getElem_cons_succ, List.getElem_cons_zero, Act.put, List.setIfInBounds_toArray, List.set_cons_zero, List.set_cons_succ]
      refine wpAnyH_take (i := 6) (v := ?_) rfl (by kernel_rfl) (by kernel_rfl) (by kernel_rfl) (fun _ _ _ h => h) (Or.inl ⟨by rfl, ?_⟩) hHeld ?_
      rotate_left
      · (intro wz hSw; (try dsimp only at hSw); (try simp only [List.getElem_toArray, List.getElem_cons_succ, List.getElem_cons_zero]); go_simp; try with_reducible rfl)
      try simp only [List.getElem_toArray, List.getElem_cons_succ, List.getElem_cons_zero, Act.put, List.setIfInBounds_toArray, List.set_cons_zero, List.set_cons_succ]
      refine wpAnyH_take (i := 7) (v := ?_) rfl (by kernel_rfl) (by kernel_rfl) (by kernel_rfl) (fun _ _ _ h => h) (Or.inl ⟨by rfl, ?_⟩) hHeld ?_
      rotate_left
      · (intro wz hSw; (try dsimp only at hSw); (try simp only [List.getElem_toArray, List.getElem_cons_succ, List.getElem_cons_zero]); go_simp; try with_reducible rfl)
      try simp only [List.getElem_toArray, List.getElem_cons_succ, List.getElem_cons_zero, Act.put, List.setIfInBounds_toArray, List.set_cons_zero, List.set_cons_succ]
      refine wpAnyH_ready (rs := [8]) (by kernel_rfl) (by simp) ?_; refine AllReadyH.cons rfl (fun K hK => ?_) AllReadyH.nil; (try simp only [List.getElem_toArray, List.getElem_cons_succ, List.getElem_cons_zero]); go_simp
      refine (HKC.out _ h0).mono ?_; rintro r0 w3 ⟨rfl, rfl⟩
      refine hK.out _ _ h0 (fun _ => ?_)
      clear hK K hHeld
      try simp only [List.getElem_toArray, List.getElem_cons_succ, List.getElem_cons_zero, Act.put, List.setIfInBounds_toArray, List.set_cons_zero, List.set_cons_succ]
      have hHeld := h0
      refine wpAnyH_take (i := 9) (v := ?_) rfl (by kernel_rfl) (by kernel_rfl) (by kernel_rfl) (fun _ _ _ h => h) (Or.inl ⟨by rfl, ?_⟩) hHeld ?_
      rotate_left
      · (intro wz hSw; (try dsimp only at hSw); (try simp only [List.getElem_toArray, List.getElem_cons_succ, List.getElem_cons_zero]); go_simp; try with_reducible rfl)
      try simp only [List.getElem_toArray, List.getElem_cons_succ, List.getElem_cons_zero, Act.put, List.setIfInBounds_toArray, List.set_cons_zero, List.set_cons_succ]
      refine wpAnyH_done (by kernel_rfl) ?_ _
      have HB0 := Lib.hid h0
      clear hHeld h0 ka kb HKC
      go_wp2_with fail
      go_roundw
      case rel => exact ⟨k + 1, by omega, by go_num, HB0.out⟩
      case measure => simp [intOf]; omega
    · obtain rfl : k = L.length := by omega
      have hd : decide ((L.length : Int) < (L.length : Int)) = false := by simp
      go_wp2_with fail
      go_ret
      exact ⟨rfl, hbw⟩
end Go.Proofs.Ytjaabakobpabjaa
