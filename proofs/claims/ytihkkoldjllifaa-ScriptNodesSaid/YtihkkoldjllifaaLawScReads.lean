/- ScriptReads: for all bytes (4096 at most; more are let through) and whatever number of nodes: they are read as the events that the document's answer reads; no condition. -/
import Derived.Test.YtihkkoldjllifaaScriptL
import Derived.Test.YtihkkoldjllifaaFrame
import Derived.Test.YtihkkoldjllifaaRows
namespace Go.Proofs.Ytihkkoldjllifaa
open Go.ChangeShapes Go.WideShapes Go.ChangeAt Go.RowKit

theorem wf_u8 {n : Int} (h : (Lit.int .u8 n).wf = true) : 0 ≤ n ∧ n ≤ 255 := by
  have h1 : IntKind.u8.min = 0 := rfl
  have h2 : IntKind.u8.max = 255 := rfl
  simp only [Lit.wf, Bool.and_eq_true, decide_eq_true_eq] at h; omega
def Tw (g : Nat) (xs : List Int) (w : World) : Prop := w.heap[g]? = some (.cells (byt (xs ++ [229, 229, 229])).toArray 5 (0, 0))
theorem tw_sl {g : Nat} {xs : List Int} {w : World} (h : Tw g xs w) (hn : (xs.length : Int) ≤ 140737488355320) : Sl w.heap.size w (.slice (some ⟨g, 0, none⟩) xs.length (xs.length + 3)) 1 xs.length (byt xs) :=
  sl_row h (by simp [byt]) (by simp [byt]) (by omega) (by unfold maxLen; omega)
theorem tw_keep {g B : Nat} {xs : List Int} {w w' : World} (h : Tw g xs w) (hb : Below B w w') (hg : g < B) : Tw g xs w' := (hb.block g hg).trans h
theorem tw_own {g : Nat} {xs : List Int} {w : World} (h : Tw g xs w) (hn : (xs.length : Int) ≤ 140737488355320) : w.ownsRow g 5 1 (.slice (some ⟨g, 0, none⟩) xs.length (xs.length + 3)) xs.length (byt xs) :=
  ⟨by rw [byt_len, Nat.mul_one], .inr ⟨g, xs.length + 3, _, rfl, Nat.le_refl _, h, by omega, by unfold maxLen; omega, by simp [byt], by simp [byt]⟩⟩
set_option maxRecDepth 100000 in
set_option maxHeartbeats 4000000 in
theorem screads_walk (bv : Value) (nodes : Int) (xs : List Int) (hx : Oct xs) (w : World) (hs : Sl w.heap.size w bv 1 xs.length (byt xs)) :
    Calls Try.prog 3 #[bv, .int .i64 nodes] w fun r w' => r = .returned (.bool true) ∧ Below w.heap.size w w' := by
  have HS := Lib.hid hs
  have HX := Lib.hid hx
  obtain ⟨pa, ca, rfl, h1, h2, -, -⟩ := hs.form
  unfold maxLen at h2
  clear hs hx
  by_cases hl : 4096 < xs.length
  · go_enter Try.func3, Try.ntmps3
    go_wp2_with fail
    refine (begun29_any _).mono ?_; rintro r w1 ⟨rfl, hb⟩
    go_wp2_with fail
    go_ret
    exact ⟨rfl, hb⟩
  go_enter Try.func3, Try.ntmps3
  go_wp2_with fail
  refine (begun29_any _).mono ?_; rintro r w1 ⟨rfl, hb1⟩
  have S1 := Lib.hid (HS.out.keep hb1)
  go_wp2_with fail
  refine (twin_any w.heap.size _ xs _ S1.out hb1.size (by omega)).mono ?_; rintro r w2 ⟨ga, rfl, hga, ta, hb2⟩
  have hw1 := hb1.size
  have B2 := Lib.hid (hb1.trans (hb2.mono hb1.size))
  have TT : Hid (Tw ga xs w2) := ta
  have hla := block_lt ta
  clear S1 hb1 ta hb2
  go_wp2_with fail
  refine (decode_any _ xs nodes _ HX.out (tw_sl TT.out (by omega)) (by omega)).mono ?_; rintro r w3 ⟨v3, L, rfl, hmap, hown, hkp, hb3⟩
  have T3 := Lib.hid (tw_keep TT.out hb3 hla)
  have B3 := Lib.hid (B2.out.trans (hb3.mono B2.out.size))
  have O3 := Lib.hid hown; have K3 := Lib.hid hkp; have HM3 := Lib.hid hmap
  have hs3 := hb3.size
  clear hmap hown hkp hb3
  go_wp2_with fail
  refine (kept_any w.heap.size _ xs ga _ (HS.out.keep B3.out) (by omega) T3.out).mono ?_; rintro r w' ⟨rfl, rfl⟩
  go_wp2_with fail
  refine (spoil_any ga _ _ _ _ (tw_own T3.out (by omega))).mono ?_; rintro r w4 ⟨rfl, gx⟩
  have hrow : (Value.slice (some ⟨ga, 0, none⟩) xs.length (xs.length + 3)).ownBlock = some ga := rfl
  rw [hrow] at gx
  have B4 : Hid (Below w.heap.size w w4) := B3.out.grown gx B3.out.size (fun j hj => by injection hj with hj; omega)
  have O4 : Hid (w4.ownsRow w2.heap.size 41 11 v3 L.length (evRow L)) := O3.out.kept gx (by
    cases hv : v3.ownBlock with
    | none => exact .inl rfl
    | some k => right; have := (O3.out.lt k hv).1; simp; omega)
  have K4 : Hid (Keeps w4 L) := K3.out.grown gx (fun g cs hg => by injection hg with hg; subst hg; rw [show _ = _ from T3.out]; simp)
  clear gx hrow
  go_wp2_with fail
  refine (refDecode_any _ xs nodes _ HX.out ((HS.out.keep B4.out).mono B4.out.size) (by omega)).mono ?_; rintro r w5 ⟨v5, M, rfl, hmap, hown, hkp, hb5⟩
  have E5 := Lib.hid (EvSl.of_own hown hkp)
  have E4 := Lib.hid ((EvSl.of_own O4.out K4.out).keep hb5 (Nat.le_refl _))
  have B5 := Lib.hid (B4.out.trans (hb5.mono B4.out.size))
  have HLM : Hid (L.map (·.1) = M.map (·.1)) := by show _ = _; rw [HM3.out, hmap]
  clear hmap hown hkp hb5
  go_wp2_with fail
  refine (sameAll_yes _ _ L M _ HLM.out E4.out E5.out (fun x hx => by
    have := decE_ks (normN nodes) xs (L.map (·.1)) HM3.out x.1 (List.mem_map_of_mem hx); omega)).mono ?_; rintro r w6 ⟨rfl, hb6⟩
  have B6 := Lib.hid (B5.out.trans (hb6.mono B5.out.size))
  clear hb6
  go_wp2_with fail
  go_ret
  exact ⟨rfl, B6.out⟩

set_option maxRecDepth 100000 in
theorem screads_lifted (os : Os) (started : os.Started) (H : Type) (enc : TypeId × Value → H) :
    ReturnsInHanded {} Try.checked os 3 .any (Rows.scriptReadsSpec.pre6 enc Try.prog Try.f3 Rows.scriptReadsRow.domain false) (Rows.scriptReadsSpec.post enc Try.prog Try.f3 false true false false) := by
  refine lift_law (C := Try.checked) (tb := 4) (by kernel_rfl) started (by kernel_rfl) Try.func3 (ChangeSpec.witness6 (enc := enc) (C := Try.checked) false ⟨#[], #[.slice none 0 0, .int .i64 0], []⟩ 8 (by kernel_rfl) (by kernel_rfl) (by kernel_rfl) (by kernel_rfl)) (by kernel_rfl) (by kernel_rfl) rfl Try.underlying4 rfl ?_ ?_
  · intro ds h
    match ds, h with
    | [_, _], _ => rfl
  · intro W base args ds ps hval0 hA0 hlt hsz
    have hval : ∀ (j : Nat) t v, Try.f3.params[j]? = some t → args[j]? = some v → Value.okWide Try.prog W .any base t v := hval0
    have hA : DataW.TrodAll enc Try.prog W 0 (fun _ => true) true Try.f3.params.toList args.toList ds ps := hA0
    rw [Try.params3] at hA hval
    obtain ⟨v0, v1, d0, d1, p0, p1, rfl, rfl, rfl, h0, h1⟩ := trodAll_two hA
    obtain ⟨xs, hs, hw⟩ := open_nums Try.underlying22 Try.underlying5 (by kernel_rfl) (hval 0 22 v0 rfl rfl) h0
    obtain ⟨nodes, rfl, rfl, rfl, wnodes⟩ := open_int Try.underlying3 (hval 1 3 v1 rfl rfl) h1
    exact screads_walk v0 nodes xs (fun x hm => wf_u8 (hw x hm)) W hs

theorem screads_holds : Rows.ScriptReadsSaid :=
  OpenClaim.holds_of_wide 3 Try.f3 rfl rfl rfl rfl rfl rfl rfl ⟨rfl, rfl, rfl, rfl, rfl⟩ rfl rfl rfl rfl rfl (by kernel_rfl) Try.func3 (by kernel_rfl)
    (of_decide_eq_true (by kernel_rfl)) (by unfold Func.isWrapper; first | (rw [if_pos (by decide +kernel)]; kernel_rfl) | (rw [if_neg (by decide +kernel)]; exact ⟨rfl, rfl⟩))
    (fun os started H enc _ => screads_lifted os started H enc)
#print axioms screads_holds

end Go.Proofs.Ytihkkoldjllifaa
