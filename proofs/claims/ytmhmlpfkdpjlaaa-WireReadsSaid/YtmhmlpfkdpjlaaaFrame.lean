import Derived.Test.YtmhmlpfkdpjlaaaWireD
import Derived.Test.YtmhmlpfkdpjlaaaRdF
import Derived.Test.YtmhmlpfkdpjlaaaWireG3
import Derived.Test.YtmhmlpfkdpjlaaaWireG
import Derived.Test.YtmhmlpfkdpjlaaaWireV
import Derived.Test.YtmhmlpfkdpjlaaaRdA
import Derived.WalkKit
import Derived.ProofKit
import Derived.OpenShut
import Derived.SizedLaws
/- Wire: 'begun' of layer 14 tells true (by the reader's contract). -/
namespace Go.Proofs.Ytmhmlpfkdpjlaaa
open Go.ChangeShapes Go.WideShapes Go.ChangeAt Go.RowKit

def cmZ : CmX := ⟨0, 0, 0, 0, 0, 0, 0, 0, 0, 0, 0, false, [], []⟩
def cmB : CmX := ⟨3, 0, 0, 0, 0, 0, 0, 0, 0, 0, -1, false, [], []⟩
theorem varN_0 : varN 0 = [0] := by rw [varN_small 0 (by omega)]; rfl
theorem encN_0 : encN 0 = [0] := by unfold encN; rw [show (zigI 0).toNat = 0 from rfl, varN_0]
theorem cmZ_len : (encCm cmZ).length = 29 := by
  unfold encCm encHd encSps encWrs encY cmZ
  simp only [List.length_append, List.length_nil, List.flatMap_nil, Int.natCast_zero, encN_0, stampB_len, List.length_cons]
  rfl
theorem varN_s (n : Nat) (h : n < 128) : (varN n).length = 1 := by rw [varN_small n h]; rfl
theorem cmB_len : (encCm cmB).length = 29 := by
  unfold encCm encHd encSps encWrs encY cmB
  have h6 : (encN 3).length = 1 := by unfold encN; rw [show (zigI 3).toNat = 6 from rfl]; exact varN_s 6 (by omega)
  have h1 : (encN (-1)).length = 1 := by unfold encN; rw [show (zigI (-1)).toNat = 1 from rfl]; exact varN_s 1 (by omega)
  simp only [List.length_append, List.length_nil, List.flatMap_nil, Int.natCast_zero, encN_0, stampB_len, List.length_cons, h6, h1]
  rfl
theorem cmZ_f : CmF cmZ := by
  constructor <;> first | (unfold cmZ In64; constructor <;> decide) | (unfold cmZ; simp)
theorem cmB_f : CmF cmB := by
  constructor <;> first | (unfold cmB In64; constructor <;> decide) | (unfold cmB; simp)
theorem cmB_v : CmV cmB := ⟨cmB_f.k, cmB_f.e, cmB_f.n, cmB_f.h, ⟨cmB_f.yn, cmB_f.yl, cmB_f.ys, cmB_f.ya⟩, ⟨cmB_f.sw, cmB_f.st⟩, cmB_f.w, trivial, ⟨by show 0 ≤ 65536; omega, fun s h => absurd h (by simp [cmB])⟩, ⟨by show 0 ≤ 65536; omega, fun s h => absurd h (by simp [cmB])⟩⟩
theorem sps_nil (w : World) (p : Option Addr) : SpsAt w p [] := fun j hj => absurd hj (by simp)
theorem wrs_nil (w : World) (p : Option Addr) : WrsAt w p [] := fun j hj => absurd hj (by simp)
theorem ces_nil (w : World) (p : Option Addr) : CesAt w p [] := fun j hj => absurd hj (by simp)
theorem ous_nil (w : World) (p : Option Addr) : OusAt w p [] := fun j hj => absurd hj (by simp)
set_option maxRecDepth 100000 in
set_option maxHeartbeats 8000000 in
theorem begun_any (w : World) :
    Calls Try.prog 7 #[] w fun r w' => r = .returned (.bool true) ∧ Below w.heap.size w w' := by
  have HNE : Hid (decide (cmB = cmZ) = false) := by show _ = _; rw [decide_eq_false_iff_not]; intro h; injection h with h1; omega
  go_enter Try.func7, Try.ntmps7
  go_wp2_with fail
  refine Calls.mono (wcmd_any cmZ none none 0 0 w cmZ_f (sps_nil _ _) (wrs_nil _ _) (by rw [cmZ_len]; omega) (Nat.zero_le _) (Nat.zero_le _)) ?_; rintro r w1 ⟨v1, rfl, ho1, hb1⟩
  obtain ⟨p1, c1, rfl, hc1, hc2, -, -⟩ := (Sl.of_own ho1).form
  have HB1 := Lib.hid hb1
  rw [cmZ_len] at hc1 ⊢
  clear ho1 hb1
  go_wp2_with fail
  refine Calls.mono (wcmd_any cmB none none 0 0 w1 cmB_f (sps_nil _ _) (wrs_nil _ _) (by rw [cmB_len]; omega) (Nat.zero_le _) (Nat.zero_le _)) ?_; rintro r w2 ⟨v2, rfl, ho2, hb2⟩
  have HB2 := Lib.hid (HB1.out.trans (hb2.mono HB1.out.size))
  have HS2 := Lib.hid (Sl.of_own ho2)
  clear ho2 hb2 HB1
  go_wp2_with fail
  refine Calls.mono (wtakeCmd_any (encCm cmB) v2 w2 HS2.out (encCm_oct cmB) (by rw [cmB_len]; omega)) ?_; intro r w3 ht
  obtain ⟨hb3, ps, pw, cs, cw, hs1, hs2, rfl⟩ := tkCmd_self ht cmB_v
  have HSP := Lib.hid hs1; have HWR := Lib.hid hs2
  clear ht hs1 hs2
  have HB3 := Lib.hid (HB2.out.trans (hb3.mono HB2.out.size))
  clear hb3 HB2 HS2
  dsimp only [cmB]
  go_upto_region 3 with fail
  obtain ⟨W, hW⟩ : ∃ W : World, w3.alloc (.cells #[.int .i64 3, .int .i64 0, .int .i64 0, .int .i64 0, .int .i64 0, .int .i64 0, .int .i64 0, .int .i64 0, .int .i64 0, .int .i64 0, .int .i64 (-1), .bool false, .slice ps 0 cs, .slice pw 0 cw] 29) = W := ⟨_, rfl⟩
  have hA : W.heap[w3.heap.size]? = some (.cells #[.int .i64 3, .int .i64 0, .int .i64 0, .int .i64 0, .int .i64 0, .int .i64 0, .int .i64 0, .int .i64 0, .int .i64 0, .int .i64 0, .int .i64 (-1), .bool false, .slice ps 0 cs, .slice pw 0 cw] 29 (0, 0)) := by rw [← hW]; exact heap_last w3 _
  have hb4 : Below w3.heap.size w3 W := by rw [← hW]; exact (Below.refl _ _).alloc (Nat.le_refl _) _
  have HB4 := Lib.hid (HB3.out.trans (hb4.mono HB3.out.size))
  rw [hW]
  have HA := Lib.hid hA
  have k0 := block_cells hA
  clear hW hb4 HB3 hA
  go_wp2_with fail
  refine Calls.mono (wpart_any 0 0 0 0 0 0 0 0 0 0 0 0 [] [] [] [] [] [] none none none none none none 0 0 0 0 0 0 W (by simp) (by simp) (by simp) (by simp) (ces_nil _ _) (ces_nil _ _) (ous_nil _ _) (ous_nil _ _) (ous_nil _ _) (ous_nil _ _)) ?_; rintro r w5 ⟨rfl, hb5⟩
  rw [show decide (PaX.mk 0 0 0 0 0 0 (List.map (fun x : CeL => x.1) []) [] [] = PaX.mk 0 0 0 0 0 0 (List.map (fun x : CeL => x.1) []) [] []) = true from decide_eq_true rfl]
  have kA := block_cells (below_block hb5 (block_lt HA.out) HA.out)
  have HB5 := Lib.hid (HB4.out.trans (hb5.mono HB4.out.size))
  clear hb5 HA HB4 k0
  go_wp2_with fail
  refine Calls.mono (wsameCmd_any cmB cmZ ps pw none none cs cw 0 0 w5 ⟨Nat.zero_le _, Nat.zero_le _⟩ ⟨Nat.zero_le _, Nat.zero_le _⟩ (sps_nil _ _) (wrs_nil _ _) (sps_nil _ _) (wrs_nil _ _)) ?_; rintro r w6 ⟨rfl, hb6⟩
  rw [HNE.out]
  have HB6 := Lib.hid (HB5.out.trans (hb6.mono HB5.out.size))
  clear hb6 HB5 kA
  go_wp2_with fail
  go_ret
  exact ⟨rfl, HB6.out⟩
end Go.Proofs.Ytmhmlpfkdpjlaaa
/- The frame of a law's row, whatever the law: from a walk that ends in 'true' and turns nothing of the old memory to the row. -/
namespace Go.Proofs.Ytmhmlpfkdpjlaaa
open Go.ChangeShapes Go.WideShapes Go.ChangeAt Go.RowKit

section
variable {H : Type} {enc : TypeId × Value → H} {P : Program}
/-- All arguments read behind the call as they did before. -/
theorem trodAll_below (hl : laidOutB P = true) {W W' : World} (hb : Below W.heap.size W W') : ∀ (ts : List TypeId) (vs : List Value) (ds : List (DataW H)) (ps : List MemPlace), (ts.all fun t => P.readableRec t && decide (t < P.types.size)) = true →
    DataW.TrodAll enc P W 0 (fun _ => true) true ts vs ds ps → (∀ x ∈ ps, x.block < W.heap.size) → DataW.TrodAll enc P W' 0 (fun b => decide (b < W.heap.size)) true ts vs ds ps
  | [], vs, ds, ps, _, h, _ => by
    obtain ⟨rfl, rfl, rfl⟩ := trodAll_nil h
    exact trodAll_mk0
  | t :: ts, vs, ds, ps, hr, h, hlt => by
    obtain ⟨v, vs', d, ds', p, q, rfl, rfl, rfl, h0, h1⟩ := trodAll_cons h
    simp only [List.all_cons, Bool.and_eq_true, decide_eq_true_eq] at hr
    exact ⟨p, q, Below.trod hl hr.1.1 hr.1.2 h0 hb (fun x hx => hlt x (List.mem_append_left _ hx)), trodAll_below hl hb ts vs' ds' q hr.2 h1 (fun x hx => hlt x (List.mem_append_right _ hx)), rfl⟩
theorem trodAll_length {W : World} {b : Nat} {sp : Nat → Bool} {hd : Bool} : ∀ (ts : List TypeId) (vs : List Value) (ds : List (DataW H)) (ps : List MemPlace), DataW.TrodAll enc P W b sp hd ts vs ds ps → ds.length = ts.length
  | [], vs, ds, ps, h => by obtain ⟨rfl, rfl, rfl⟩ := trodAll_nil h; rfl
  | t :: ts, vs, ds, ps, h => by
    obtain ⟨v, vs', d, ds', p, q, rfl, rfl, rfl, h0, h1⟩ := trodAll_cons h
    simp [trodAll_length ts vs' ds' q h1]

/-- The row's step of a law: nothing is left but the walk. -/
theorem lift_law {C : Checked} {os : Os} {F : FuncId} {fF : Func} {s : ChangeSpec} {tb : TypeId} (own : ownKnob C.prog.godebug = none) (started : os.Started) (noInit : C.prog.inits.idxOf? F = none) (hfn : C.prog.funcs[F]? = some fF)
    (witness : ∃ (w : World) (tape : Tape) (i : Input), w.os = os ∧ (w.forCall tape i).Shaped C.prog ∧ i.vars = [] ∧ Input.okWide C.prog (w.forCall tape i) .any w.heap.size F i ∧
      s.pre6 enc C.prog fF [] false (w.forCall tape i).memory i.args ∧ Assume.holds {} C.prog (lone (Frame.enter C.prog F i.args .normal) [] (w.forCall tape i)))
    (hl : laidOutB C.prog = true) (hr : (fF.params.toList.all fun t => C.prog.readableRec t && decide (t < C.prog.types.size)) = true) (hres : fF.resultTypes = #[tb]) (hb : C.prog.underlying tb = some .bool)
    (hvars : s.vars = []) (hspec : ∀ ds : List (DataW H), ds.length = fF.params.toList.length → s.fn H (ds ++ []) = { results := [.lit (.bool true)], args := ds })
    (walk : ∀ (W : World) (base : Nat) (args : Array Value) (ds : List (DataW H)) (ps : List MemPlace), (∀ (j : Nat) t v, fF.params[j]? = some t → args[j]? = some v → Value.okWide C.prog W .any base t v) →
      DataW.TrodAll enc C.prog W 0 (fun _ => true) true fF.params.toList args.toList ds ps → (∀ x ∈ ps, x.block < W.heap.size) →
      (DataW.weightsEach C.prog (fF.params.toList ++ s.plain.varTypes C.prog) (ds ++ [])).all (· ≤ reachBytes) = true →
      Calls C.prog F args W fun e W' => e = .returned (.bool true) ∧ Below W.heap.size W W') :
    ReturnsInHanded {} C os F .any (s.pre6 enc C.prog fF [] false) (s.post enc C.prog fF false true false false) := by
  refine returnsInHanded_of_change_sized (C := C) own started noInit hfn witness ?_
  intro W base args ds gs before hval hW hcnd hsz _
  have hW' := hW
  obtain ⟨p, q, hA, hV, rfl, _, _⟩ := hW
  rw [hvars] at hV
  obtain ⟨rfl, rfl⟩ := trodVars_none hV
  have hlt : ∀ x ∈ p, x.block < W.heap.size := fun x hx => hW'.lt x (List.mem_append_left _ hx)
  refine (walk W base args ds p hval hA hlt hsz).mono fun e W' ⟨he, hb'⟩ => ?_
  subst he
  have e := hspec ds (trodAll_length _ _ _ _ hA)
  refine ⟨_, rfl, ds, [], p ++ [], [], p, [], hW', ?_, ?_, ?_, hb'.frame _, fun h => by cases h⟩
  · rw [e, hres]; exact trodAll_mk1 (shut_bool hb true)
  · rw [e]; exact trodAll_below hl hb' _ _ _ _ hr hA hlt
  · rw [hvars, e]; rfl

end
end Go.Proofs.Ytmhmlpfkdpjlaaa
