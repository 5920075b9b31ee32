/- HardReads: for every node, configurations and records: what package hard builds of the records, or that they are none, is what the document's answer builds, and the records are kept as they were. -/
import Derived.Test.YtjaabakobpabjaaRf0
import Derived.Test.YtjaabakobpabjaaBegun15
import Derived.Test.YtjaabakobpabjaaGwA
import Derived.Test.YtjaabakobpabjaaCalm
import Derived.Test.YtjaabakobpabjaaRows
namespace Go.Proofs.Ytjaabakobpabjaa
open Go.ChangeShapes Go.WideShapes Go.ChangeAt Go.RowKit

set_option maxRecDepth 100000 in
set_option maxHeartbeats 16000000 in
theorem hreads_walk (id : Int) (js : List Jn) (pj : Option Addr) (cj : Nat) (L : List RcX) (pr : Option Addr) (cr : Nat) (w : World) (hj : JnAt w pj js) (hr : RcAt w.heap.size w pr L) (ho : ∀ x ∈ L, Oct x.xs ∧ x.xs.length ≤ maxLen) (hjl : js.length ≤ maxLen) (hLl : L.length ≤ maxLen) :
    Calls Try.prog 3 #[.int .i64 id, .slice pj js.length cj, .slice pr L.length cr] w fun e w' => e = .returned (.bool true) ∧ Below w.heap.size w w' := by
  obtain ⟨i0, hi0, hz0, hz1, hz2⟩ := info_parts Try.infoStr
  have HJ := Lib.hid hj; have HR := Lib.hid hr; have HO := Lib.hid ho
  unfold maxLen at hjl hLl
  clear hj hr ho
  go_enter Try.func3, Try.ntmps3
  obtain ⟨Q', hQ⟩ : ∃ Q', bodyPost Try.prog Try.f3 (fun e w' => e = .returned (.bool true) ∧ Below w.heap.size w w') = Q' := ⟨_, rfl⟩
  have HQ : Hid (∀ (a : Act) (w' : World), a.tmps.getD 6 undef = .bool true → a.defers = [] → Below w.heap.size w w' → Q' .ret a w') := fun a w' h6 hd hb => by
    rw [← hQ]; exact bodyPost_ret (v := .bool true) (by rw [results_tmp rfl, h6]) hd ⟨rfl, hb⟩
  rw [hQ]
  clear hQ
  by_cases h40 : 40 < L.length
  · go_wp2_with fail
    refine (begun15_any w).mono ?_; rintro e w1 ⟨rfl, hb1⟩
    go_wp2_with fail
    exact HQ.out _ _ rfl rfl hb1
  by_cases h5 : 5 < js.length
  · go_wp2_with fail
    refine (begun15_any w).mono ?_; rintro e w1 ⟨rfl, hb1⟩
    go_wp2_with fail
    exact HQ.out _ _ rfl rfl hb1
  go_wp2_with fail
  refine (begun15_any w).mono ?_; rintro e w1 ⟨rfl, hb1⟩
  have HB1 := Lib.hid hb1
  have HS := Lib.hid (sum_any w.heap.size L pr cr w1 (HR.out.keep hb1) (by omega) (fun r hr => by have := (HO.out r hr).2; unfold maxLen at this; omega))
  clear hb1
  go_wp2_with fail
  refine HS.out.mono ?_; rintro e _ ⟨⟨m, rfl, hm⟩, rfl⟩
  clear HS
  by_cases h6 : 6000 < m
  · clear hm
    go_wp2_with fail
    exact HQ.out _ _ rfl rfl HB1.out
  have HM := Lib.hid (hm (by omega))
  have HT := Lib.hid (twins_any w.heap.size L pr cr w1 (HR.out.keep HB1.out) HB1.out.size (by omega) HM.out)
  clear hm
  go_wp2_with fail
  refine HT.out.mono ?_; rintro e w2 ⟨v, M, rfl, hM, hT, hb2⟩
  obtain ⟨pt, ct, rfl⟩ := own_formH hT.own
  have HB2 := Lib.hid (HB1.out.trans (hb2.mono HB1.out.size))
  have hml : M.length = L.length := by have := congrArg List.length hM; simpa using this
  have h6M : ∀ x ∈ M, x.2.length ≤ 6000 := fun x hx => by
    have h1 : x.2 ∈ M.map (·.2) := List.mem_map.2 ⟨x, hx, rfl⟩
    rw [hM] at h1
    obtain ⟨r, hr, e⟩ := List.mem_map.1 h1
    rw [← e]; exact HM.out r hr
  have hOM : ∀ x ∈ M, Oct x.2 := fun x hx => by
    have h1 : x.2 ∈ M.map (·.2) := List.mem_map.2 ⟨x, hx, rfl⟩
    rw [hM] at h1
    obtain ⟨r, hr, e⟩ := List.mem_map.1 h1
    rw [← e]; exact (HO.out r hr).1
  have H6M := Lib.hid h6M; have HML := Lib.hid hml; have HMM := Lib.hid hM
  have HTW := Lib.hid (hT.mono (HB1.out.size))
  have HC := Lib.hid (show Calls Try.prog 9 #[.int .i64 id, .slice pj js.length cj, .slice pt M.length ct] w2 (BldEnd w2 (bld id js (L.map RcX.xs))) from by
    have := hbuild_any id js pj cj (twR M) pt ct w2 (HJ.out.keep HB2.out) (hT.rc h6M) (fun r hr => by
      obtain ⟨x, hx, rfl⟩ := List.mem_map.1 hr
      exact ⟨hOM x hx, by have := h6M x hx; show (x.2.length : Int) ≤ _; omega⟩) (by omega) (by rw [twR_len]; omega)
    rw [twR_len, twR_xs, hM] at this
    exact this)
  obtain ⟨⟨life, er, cs⟩, hbr⟩ : ∃ x, bldR (bld id js (L.map RcX.xs)) = x := ⟨_, rfl⟩
  have HBR := Lib.hid hbr
  have HCL := Lib.hid (show ∀ c ∈ cs, c.l.es.length ≤ 1000000 from fun c hc => by
    have h1 := bldR_len (id := id) (js := js) (R := L.map RcX.xs) c (by rw [hbr]; exact hc)
    rw [List.length_map] at h1; omega)
  clear hT hM hb2 hml h6M hOM HT hbr
  go_wp2_with fail
  refine HC.out.mono ?_; intro e w3 he
  obtain ⟨pl, l, cl, rfl, hl1, hl2, hb3⟩ := he.two HBR.out
  have HB3 := Lib.hid (HB2.out.trans (hb3.mono HB2.out.size))
  have HTW3 := Lib.hid (HTW.out.keep hb3)
  have HL1 := Lib.hid hl1; have HL3 := Lib.hid hl2
  clear he hl1 hl2 hb3 HC HTW
  have HS3 : Hid (w3.ownsRow w3.heap.size 9 1 (.slice none 0 0) 0 (stR ((L.map RcX.xs).take 0)) ∧ Below w3.heap.size w3 w3) := ⟨⟨rfl, .inl ⟨rfl, rfl⟩⟩, Below.refl _ _⟩
  go_wp2_with fail
  go_loopw [11, 12] (fun u i wr => ∃ k : Nat, k ≤ L.length ∧ i = .int .i64 k ∧ Hid (wr.ownsRow w3.heap.size 9 1 u k (stR ((L.map RcX.xs).take k)) ∧ Below w3.heap.size w3 wr)) (fun _ i _ => L.length - (intOf i).toNat)
  case atStart => exact ⟨0, Nat.zero_le _, rfl, HS3⟩
  case round =>
    clear HS3
    obtain ⟨k, hk, rfl, HS⟩ := hrel
    obtain ⟨wk, rfl⟩ : ∃ wk : World, wk = wr := ⟨_, rfl⟩
    obtain ⟨vk, rfl⟩ : ∃ vk : Value, vk = u11 := ⟨_, rfl⟩
    by_cases hlt : k < L.length
    · have hd : decide ((k : Int) < (L.length : Int)) = true := by simp; omega
      obtain ⟨hown, hbw⟩ := HS.out
      obtain ⟨g, o, rfl, hg, hc, hsl⟩ := HR.out k hlt
      obtain ⟨x, hx⟩ : ∃ x, L[k] = x := ⟨_, rfl⟩
      rw [hx] at hc hsl
      have bw := HB3.out.trans (hbw.mono HB3.out.size)
      have hcell := (bw.cell (p := ⟨g, o + k, none⟩) hg).trans hc
      have hcv := run_convert_sl (P := Try.prog) (hsl.keep bw) 32 5 Try.underlying32 Try.underlying5 9 Try.underlying9
      obtain ⟨s, hs⟩ : ∃ s, strOfNums x.xs = s := ⟨_, rfl⟩
      rw [hs] at hcv
      have hbx : Below wk.heap.size wk (wk.alloc (.cells #[.string s] 9)) := (Below.refl _ _).alloc (Nat.le_refl _) _
      have HOx := Lib.hid (own_keptH hown hbx)
      have HBx := Lib.hid (hbw.trans (hbx.mono hbw.size))
      have HQx : Hid ((wk.alloc (.cells #[.string s] 9)).heap[wk.heap.size]? = some (.cells #[.string s] 9 (0, 0))) := heap_last wk _
      have HX := Lib.hid hx; have HSS := Lib.hid hs
      clear hown hbw hc hsl hx hs bw hbx HS hg
      go_wp2_with (at_builtin; go_loud (refine wpList_append_sl_at rfl _ _ 31 rfl w3.heap.size 9 i0 (.string ⟨#[]⟩) 1 16 Try.underlying31 hi0 hz0 hz1 hz2 rfl (by decide) vk k (stR ((L.map RcX.xs).take k)) rfl HOx.out _ _ 1 [.string s] rfl (sl_oneB HQx.out) (by intro u hu; rw [List.mem_singleton] at hu; rw [hu]; rfl) ?d1 ?d2 ?d3 ?_))
      case d1 => unfold maxLen; omega
      case d2 => omega
      case d3 => exact HBx.out.size
      intro v4 w4 h2 h3 h4
      have HS2 : Hid (w4.ownsRow w3.heap.size 9 1 v4 (k + 1) (stR ((L.map RcX.xs).take (k + 1))) ∧ Below w3.heap.size w3 w4) := ⟨by
        have e : (L.map RcX.xs).take (k + 1) = (L.map RcX.xs).take k ++ [x.xs] := by rw [← List.map_take, List.take_succ_eq_append_getElem hlt, List.map_append, HX.out, List.map_take]; rfl
        rw [e, stR_app, show stR [x.xs] = [.string s] from by rw [← HSS.out]; rfl]; exact h2, HBx.out.grown h3 HBx.out.size (fun b hb => (HOx.out.lt b hb).1)⟩
      clear h2 h3 h4 HOx HBx HQx HX HSS
      go_wp2_with fail
      go_roundw
      case rel => exact ⟨k + 1, by omega, by go_num, HS2⟩
      case measure => simp [intOf]; omega
    · obtain rfl : k = L.length := by omega
      have hd : decide ((L.length : Int) < (L.length : Int)) = false := by simp
      obtain ⟨hown, hbw⟩ := HS.out
      rw [List.take_of_length_le (by simp)] at hown
      obtain ⟨ps, cps, rfl⟩ := own_formH hown
      have HB4 := Lib.hid (HB3.out.trans (hbw.mono HB3.out.size))
      have HTW4 := Lib.hid (HTW3.out.keep hbw); have HL4 := Lib.hid (HL3.out.keep hbw)
      have HC := Lib.hid (show Calls Try.prog 10 #[.int .i64 id, .slice pj js.length cj, .slice ps L.length cps] wk (BldEnd wk (bld id js (L.map RcX.xs))) from by
        have h1 : ((L.map RcX.xs).map strOfNums).map txW = L.map RcX.xs := by
          rw [List.map_map]
          conv => rhs; rw [← List.map_id (L.map RcX.xs)]
          refine List.map_congr_left (fun z hz => ?_)
          obtain ⟨r, hr, rfl⟩ := List.mem_map.1 hz
          exact txW_str (HO.out r hr).1
        have h2 : ((L.map RcX.xs).map strOfNums).length = L.length := by simp
        have := rbuild_any id js pj cj ((L.map RcX.xs).map strOfNums) ps cps wk (HJ.out.keep HB4.out) (fun j hj => by
          rw [h2] at hj
          obtain ⟨g, rfl, hg, hc⟩ := own_atH hown hj
          refine ⟨g, 0, rfl, hg, ?_⟩
          rw [Nat.zero_add, hc j hj]
          simp [stR, hj]) (fun s hs => by
          obtain ⟨z, hz, rfl⟩ := List.mem_map.1 hs
          obtain ⟨r, hr, rfl⟩ := List.mem_map.1 hz
          have h3 := txW_len (strOfNums r.xs)
          rw [txW_str (HO.out r hr).1] at h3
          have := HM.out r hr
          omega) (by omega) (by rw [h2]; omega)
        rw [h1, h2] at this
        exact this)
      clear hown hbw HS HTW3 HL3
      go_wp2_with fail
      refine HC.out.mono ?_; intro e w5 he
      obtain ⟨pm, l2, cm, rfl, hm1, hm2, hb5⟩ := he.two HBR.out
      have hll : l2.length = l.length := by have := congrArg List.length (hm1.trans HL1.out.symm); simpa using this
      rw [hll] at hm2 ⊢
      have HB5 := Lib.hid (HB4.out.trans (hb5.mono HB4.out.size))
      have HTW5 := Lib.hid (HTW4.out.keep hb5); have HL5 := Lib.hid (HL4.out.keep hb5); have HM5 := Lib.hid hm2
      have HM1 := Lib.hid hm1; have HLL := Lib.hid hll
      have HC := Lib.hid (show Calls Try.prog 11 #[.slice pt M.length ct, .slice pr L.length cr] w5 _ from allkept_any w.heap.size w.heap.size L M _ pr cr w5 (HR.out.keep HB5.out) HTW5.out HMM.out HB5.out.size (by omega) HM.out)
      clear he hm1 hm2 hb5 hll HTW4 HL4
      go_wp2_with fail
      refine HC.out.mono ?_; rintro e w6 ⟨rfl, hb6⟩
      have HI : Hid (SpI w.heap.size w2.heap.size wk.heap.size w (.slice pt M.length ct) (.slice pl l.length cl) (.slice pm l.length cm) M l l2 0 w6) :=
        have T := HTW5.out.keep hb6
        ⟨T.own, fun j _ hj => T.el _ (List.getElem_mem hj), T.up, HL5.out.keep hb6, HM5.out.keep hb6, HB5.out.trans (hb6.mono HB5.out.size)⟩
      clear hb6 HC HTW5 HL5 HM5
      go_wp2_with fail
      go_loopw [16] (fun i wr => ∃ k : Nat, k ≤ M.length ∧ i = .int .i64 k ∧ Hid (SpI w.heap.size w2.heap.size wk.heap.size w (.slice pt M.length ct) (.slice pl l.length cl) (.slice pm l.length cm) M l l2 k wr)) (fun i _ => M.length - (intOf i).toNat)
      case atStart => exact ⟨0, Nat.zero_le _, rfl, HI⟩
      case round =>
        clear HI
        obtain ⟨k, hk, rfl, HI⟩ := hrel
        obtain ⟨wy, rfl⟩ : ∃ wy : World, wy = wr := ⟨_, rfl⟩
        by_cases hlt : k < M.length
        · have hd : decide ((k : Int) < (M.length : Int)) = true := by simp; omega
          obtain ⟨g, rfl, hg, hc⟩ := own_atH HI.out.own hlt
          have hcell : wy.cell? ⟨g, k, none⟩ = some (twV M[k]) := by rw [hc k hlt, List.getElem?_map, List.getElem?_eq_getElem hlt]; rfl
          have HC := Lib.hid (spoil_any w.heap.size _ _ _ wy (HI.out.row hlt (H6M.out _ (List.getElem_mem hlt))))
          have HN := Lib.hid (show ∀ w', wy.grownBy w' (some (M[k]).1) → SpI w.heap.size w2.heap.size wk.heap.size w (.slice (some ⟨g, 0, none⟩) M.length ct) (.slice pl l.length cl) (.slice pm l.length cm) M l l2 (k + 1) w' from fun w' h => HI.out.next HI.out.b.size hlt h)
          have hM40 : M.length ≤ 40 := by rw [HML.out]; omega
          obtain ⟨t, ht⟩ : ∃ t, M[k] = t := ⟨_, rfl⟩
          rw [ht] at hcell HC HN
          clear ht hc hg HI
          unfold twV at hcell HC
          go_wp2_with fail
          refine HC.out.mono ?_; rintro e w7 ⟨rfl, hg7⟩
          have HI7 := Lib.hid (HN.out w7 hg7)
          clear hg7 HC HN
          go_wp2_with fail
          go_roundw
          case rel => exact ⟨k + 1, by omega, by go_num, HI7⟩
          case measure => simp [intOf]; omega
        · obtain rfl : k = M.length := by omega
          have hd : decide ((M.length : Int) < (M.length : Int)) = false := by simp
          have HL := Lib.hid HI.out.l; have HMC := Lib.hid HI.out.m; have HB := Lib.hid HI.out.b
          clear HI
          go_wp2_with fail
          go_loopw [17] (fun i wr => ∃ k : Nat, k ≤ l.length ∧ i = .int .i64 k ∧ Below wy.heap.size wy wr) (fun i _ => l.length - (intOf i).toNat)
          case atStart => exact ⟨0, Nat.zero_le _, rfl, Below.refl _ _⟩
          case round =>
            obtain ⟨k, hk, rfl, hbz⟩ := hrel
            obtain ⟨wz, rfl⟩ : ∃ wz : World, wz = wr := ⟨_, rfl⟩
            by_cases hlt : k < l.length
            · have hd : decide ((k : Int) < (l.length : Int)) = true := by simp; omega
              have hlt2 : k < l2.length := by rw [HLL.out]; exact hlt
              obtain ⟨ga, rfl, -⟩ := HL.out.form hlt
              obtain ⟨gb, rfl, -⟩ := HMC.out.form hlt2
              obtain ⟨⟨c, p1, k1⟩, hx⟩ : ∃ x, l[k] = x := ⟨_, rfl⟩
              obtain ⟨⟨c2, p2, k2⟩, hy⟩ : ∃ x, l2[k] = x := ⟨_, rfl⟩
              have hcc : c2 = c ∧ c ∈ cs := by
                have h1 : (l2.map CoX.c)[k]? = some c2 := by rw [List.getElem?_map, List.getElem?_eq_getElem hlt2, hy]; rfl
                have h2 : (l.map CoX.c)[k]? = some c := by rw [List.getElem?_map, List.getElem?_eq_getElem hlt, hx]; rfl
                rw [HM1.out] at h1; rw [HL1.out] at h2
                rw [h1] at h2
                exact ⟨by simpa using h2, by have := List.mem_of_getElem? h1; simp only [Option.some.injEq] at h2; rw [h2] at this; exact this⟩
              obtain ⟨rfl, hcm⟩ := hcc
              have HRA := Lib.hid (show ∀ w', Below wy.heap.size wy w' → w'.rangeAt ga (k * 45) (coL c2 p1 k1) from fun w' h => by have := (HL.out.keep h).range hlt; rw [hx] at this; exact this)
              have HRB := Lib.hid (show ∀ w', Below wy.heap.size wy w' → w'.rangeAt gb (k * 45) (coL c2 p2 k2) from fun w' h => by
                have h1 := HMC.out.keep h
                rw [← HLL.out] at h1
                have := h1.range hlt2; rw [hy] at this; exact this)
              have HSM := Lib.hid (show ∀ w', Below wy.heap.size wy w' → Calls Try.prog 13 #[.agg (coL c2 p1 k1).toArray, .agg (coL c2 p2 k2).toArray] w' fun r w2 => r = .returned (.bool true) ∧ Below w'.heap.size w' w2 from fun w' h => rsame13_any c2 p1 p2 k1 k2 w' (HCL.out c2 hcm) (by
                have := (HL.out.keep h).en _ (List.getElem_mem hlt); rw [hx] at this; exact EnSl.of_own this) (by
                have := (HMC.out.keep h).en _ (List.getElem_mem hlt2); rw [hy] at this; exact EnSl.of_own this))
              have hkm : (k : Int) < (l.length : Int) := by omega
              have hk0 : 0 ≤ (k : Int) := by omega
              have hlm := own_max HL.out.own
              clear hx hy hcm
              go_upto_region 22 with fail
              have h0 : Below wy.heap.size wy wz.drew := hbz.drew
              refine wp_region_noPanic ?_
              refine wp_region_held_drew (S := fun w' => Below wy.heap.size wy w') (by kernel_rfl) h0 (fun hHeld => ?_)
              obtain ⟨wd, ewd⟩ : ∃ x, wz.drew = x := ⟨_, rfl⟩
              rw [ewd] at h0 hHeld ⊢
              clear ewd
              refine wpAnyH_take (i := 0) (v := ?_) rfl (by kernel_rfl) (by kernel_rfl) (by kernel_rfl) (fun _ _ _ h => h) (Or.inl ⟨by rfl, ?_⟩) hHeld ?_
              rotate_left
              · (intro wz hSw; (try dsimp only at hSw); (try simp only [List.getElem_toArray, List.getElem_cons_zero]); go_simp; try with_reducible rfl)
              try simp only [List.getElem_toArray, List.getElem_cons_zero, Act.put, List.setIfInBounds_toArray, List.set_cons_zero, List.set_cons_succ]
              refine wpAnyH_take (i := 1) (v := ?_) rfl (by kernel_rfl) (by kernel_rfl) (by kernel_rfl) (fun _ _ _ h => h) (Or.inl ⟨by rfl, ?_⟩) hHeld ?_
              rotate_left
              · (intro wz hSw; (try dsimp only at hSw); (try simp only [List.getElem_toArray, List.getElem_cons_succ, List.getElem_cons_zero]); go_simp; try with_reducible rfl)
              try simp only [List.getElem_toArray, List.getElem_cons_succ, List.getElem_cons_zero, Act.put, List.setIfInBounds_toArray, List.set_cons_zero, List.set_cons_succ]
              refine wpAnyH_take (i := 2) (v := ?_) rfl (by kernel_rfl) (by kernel_rfl) (by kernel_rfl) (fun _ _ _ h => h) (Or.inl ⟨by rfl, ?_⟩) hHeld ?_
              rotate_left
              · (intro wz hSw; (try dsimp only at hSw); (try simp only [List.getElem_toArray, List.getElem_cons_succ, List.getElem_cons_zero]); go_simp; try with_reducible rfl)
              try simp only [List.getElem_toArray, List.getElem_cons_succ, List.getElem_cons_zero, Act.put, List.setIfInBounds_toArray, List.set_cons_zero, List.set_cons_succ]
              refine wpAnyH_take (i := 4) (v := ?_) rfl (by kernel_rfl) (by kernel_rfl) (by kernel_rfl) (fun _ _ _ h => h) (Or.inl ⟨by rfl, ?_⟩) hHeld ?_
              rotate_left
              · (intro wz hSw; (try dsimp only at hSw); (try simp only [List.getElem_toArray, List.getElem_cons_succ, List.getElem_cons_zero]); go_simp; try with_reducible rfl)
              try simp only [List.getElem_toArray, List.getElem_cons_succ, List.getElem_cons_zero, Act.put, List.setIfInBounds_toArray, List.set_cons_zero, List.set_cons_succ]
              refine wpAnyH_take (i := 5) (v := ?_) rfl (by kernel_rfl) (by kernel_rfl) (by kernel_rfl) (fun _ _ _ h => h) (Or.inl ⟨by rfl, ?_⟩) hHeld ?_
              rotate_left
              · (intro wz hSw; (try dsimp only at hSw); (try simp only [List.getElem_toArray, List.getElem_cons_succ, List.getElem_cons_zero]); go_simp; try with_reducible rfl)
              try simp only [List.getElem_toArray, List.getElem_cons_succ, List.getElem_cons_zero, Act.put, List.setIfInBounds_toArray, List.set_cons_zero, List.set_cons_succ]
              refine wpAnyH_take (i := 6) (v := ?_) rfl (by kernel_rfl) (by kernel_rfl) (by kernel_rfl) (fun _ _ _ h => h) (Or.inl ⟨by rfl, ?_⟩) hHeld ?_
              rotate_left
              · (intro wz hSw; (try dsimp only at hSw); (try simp only [List.getElem_toArray, List.getElem_cons_succ, List.getElem_cons_zero]); go_simp; try with_reducible rfl)
              try simp only [List.getElem_toArray, List.getElem_cons_succ, List.getElem_cons_zero, Act.put, List.setIfInBounds_toArray, List.set_cons_zero, List.set_cons_succ]
              refine wpAnyH_take (i := 3) (v := .agg (coL c2 p1 k1).toArray) rfl (by kernel_rfl) (by kernel_rfl) (by kernel_rfl) (fun _ _ _ h => h) (yieldsIf_load_mid (by rfl) _ _ rfl ga (k * 45) rfl (coL c2 p1 k1) _ HRA.out Try.underlying48 rfl (by kernel_rfl)) hHeld ?_
              try simp only [List.getElem_toArray, List.getElem_cons_succ, List.getElem_cons_zero, Act.put, List.setIfInBounds_toArray, List.set_cons_zero, List.set_cons_succ]
              refine wpAnyH_take (i := 7) (v := .agg (coL c2 p2 k2).toArray) rfl (by kernel_rfl) (by kernel_rfl) (by kernel_rfl) (fun _ _ _ h => h) (yieldsIf_load_mid (by rfl) _ _ rfl gb (k * 45) rfl (coL c2 p2 k2) _ HRB.out Try.underlying48 rfl (by kernel_rfl)) hHeld ?_
              try simp only [List.getElem_toArray, List.getElem_cons_succ, List.getElem_cons_zero, Act.put, List.setIfInBounds_toArray, List.set_cons_zero, List.set_cons_succ]
              refine wpAnyH_ready (rs := [8]) (by kernel_rfl) (by simp) ?_; refine AllReadyH.cons rfl (fun K hK => ?_) AllReadyH.nil; (try simp only [List.getElem_toArray, List.getElem_cons_succ, List.getElem_cons_zero]); go_simp
              refine (HSM.out wd h0).mono ?_; rintro r0 w9 ⟨rfl, b9⟩
              have s9 := h0.trans (b9.mono h0.size)
              refine hK.out _ _ s9 (fun _ => ?_)
              clear hK K hHeld b9
              try simp only [List.getElem_toArray, List.getElem_cons_succ, List.getElem_cons_zero, Act.put, List.setIfInBounds_toArray, List.set_cons_zero, List.set_cons_succ]
              have hHeld := s9
              refine wpAnyH_take (i := 9) (v := ?_) rfl (by kernel_rfl) (by kernel_rfl) (by kernel_rfl) (fun _ _ _ h => h) (Or.inl ⟨by rfl, ?_⟩) hHeld ?_
              rotate_left
              · (intro wz hSw; (try dsimp only at hSw); (try simp only [List.getElem_toArray, List.getElem_cons_succ, List.getElem_cons_zero]); go_simp; try with_reducible rfl)
              try simp only [List.getElem_toArray, List.getElem_cons_succ, List.getElem_cons_zero, Act.put, List.setIfInBounds_toArray, List.set_cons_zero, List.set_cons_succ]
              refine wpAnyH_done (by kernel_rfl) ?_ _
              refine NoPanic.normal ?_
              have HZ := Lib.hid s9
              clear hHeld s9 h0 HRA HRB HSM hbz
              go_wp2_with fail
              go_roundw
              case rel => exact ⟨k + 1, by omega, by go_num, HZ.out⟩
              case measure => simp [intOf]; omega
            · obtain rfl : k = l.length := by omega
              have hd : decide ((l.length : Int) < (l.length : Int)) = false := by simp
              have HEND := Lib.hid (HB.out.trans (hbz.mono HB.out.size))
              clear hbz
              go_wp2_with fail
              exact HQ.out _ _ rfl rfl HEND.out

set_option maxRecDepth 100000 in
theorem hreads_lifted (os : Os) (started : os.Started) (H : Type) (enc : TypeId × Value → H) :
    ReturnsInHanded {} Try.checked os 3 .any (Rows.hardReadsSpec.pre6 enc Try.prog Try.f3 Rows.hardReadsRow.domain false) (Rows.hardReadsSpec.post enc Try.prog Try.f3 false true false false) := by
  refine lift_law (C := Try.checked) (tb := 4) (by kernel_rfl) started (by kernel_rfl) Try.func3 (ChangeSpec.witness6 (enc := enc) (C := Try.checked) false ⟨#[], #[.int .i64 0, .slice none 0 0, .slice none 0 0], []⟩ 8 (by kernel_rfl) (by kernel_rfl) (by kernel_rfl) (by kernel_rfl)) (by kernel_rfl) (by kernel_rfl) rfl Try.underlying4 rfl ?_ ?_
  · intro ds h
    match ds, h with
    | [_, _, _], _ => rfl
  · intro W base args ds ps hval0 hA0 hlt hsz
    have hval : ∀ (j : Nat) t v, Try.f3.params[j]? = some t → args[j]? = some v → Value.okWide Try.prog W .any base t v := hval0
    have hA : DataW.TrodAll enc Try.prog W 0 (fun _ => true) true Try.f3.params.toList args.toList ds ps := hA0
    rw [Try.params3] at hA hval
    obtain ⟨v0, v1, v2, d0, d1, d2, p0, p1, p2, rfl, rfl, rfl, h0, h1, h2⟩ := trodAll_three hA
    obtain ⟨x, rfl, rfl, rfl, wx⟩ := open_int Try.underlying3 (hval 0 3 v0 rfl rfl) h0
    obtain ⟨js, pj, cj, rfl, hjl, hjs⟩ := open_jns (hval 1 22 v1 rfl rfl) h1
    obtain ⟨L, pr, cr, rfl, hll, hrs, hol⟩ := open_recs (hval 2 23 v2 rfl rfl) h2
    exact hreads_walk x js pj cj L pr cr W hjs hrs hol hjl hll

theorem hreads_holds : Rows.HardReadsSaid :=
  OpenClaim.holds_of_wide 3 Try.f3 rfl rfl rfl rfl rfl rfl rfl ⟨rfl, rfl, rfl, rfl, rfl⟩ rfl rfl rfl rfl rfl (by kernel_rfl) Try.func3 (by kernel_rfl)
    (of_decide_eq_true (by kernel_rfl)) (by unfold Func.isWrapper; first | (rw [if_pos (by decide +kernel)]; kernel_rfl) | (rw [if_neg (by decide +kernel)]; exact ⟨rfl, rfl⟩))
    (fun os started H enc _ => hreads_lifted os started H enc)
#print axioms hreads_holds

end Go.Proofs.Ytjaabakobpabjaa
