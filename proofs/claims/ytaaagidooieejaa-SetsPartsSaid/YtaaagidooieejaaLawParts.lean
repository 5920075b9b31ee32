/- SetsParts: for every set and every stop: all subsets are told, rising, each once, until the function tells false; no condition. -/
import Derived.Test.YtaaagidooieejaaBegun9
import Derived.Test.YtaaagidooieejaaFrame
import Derived.Test.YtaaagidooieejaaRows
namespace Go.Proofs.Ytaaagidooieejaa
open Go.ChangeShapes Go.WideShapes Go.ChangeAt Go.RowKit

theorem wf_u16 {n : Int} (h : (Lit.int .u16 n).wf = true) : 0 ≤ n ∧ n ≤ 65535 := by
  have h1 : IntKind.u16.min = 0 := rfl
  have h2 : IntKind.u16.max = 65535 := rfl
  simp only [Lit.wf, Bool.and_eq_true, decide_eq_true_eq] at h; omega
theorem cnt_fit (s : Int) : 0 ≤ cnt s ∧ cnt s ≤ 9 := by
  have := lst_len s
  unfold cnt; omega
theorem rise_set (s : Int) (h0 : 0 ≤ s) : rise (bits .and .u16 s 1022) 512 0 (-1) = some (2 ^ (cnt s).toNat) := by
  obtain ⟨h2, h1⟩ := even_and s h0
  have h3 := (bits_fit .and s 1022).1
  have hc := cnt_and s h0
  generalize bits .and .u16 s 1022 = S at *
  have := rise_all ⟨(S / 2).toNat, by omega⟩
  rw [show (2 * (((S / 2).toNat : Nat) : Int)) = S by omega, hc] at this
  exact this

set_option maxRecDepth 100000 in
set_option maxHeartbeats 1000000 in
theorem subsetsNil_any (s : Int) (w : World) :
    Calls Try.prog 13 #[.int .u16 s, .nilFunc] w fun r w' => r = .returned (.tuple #[]) ∧ w = w' := by
  have hq : ∀ (w : World), (binOp .eql 30 .nilFunc .nilFunc).run Try.prog w = .ok (.bool true) w := fun _ => by kernel_rfl
  go_enter Try.func13, Try.ntmps13
  go_wp2_with fail
  (first | (simp only [Exit.inBlock, Exit.then]; refine bodyPost_ret (results_none rfl _ _ _) rfl ?_) | refine bodyPost_ret (results_none rfl _ _ _) rfl ?_)
  exact ⟨rfl, rfl⟩

set_option maxRecDepth 100000 in
set_option maxHeartbeats 2000000 in
theorem parts_walk (s stop : Int) (s0 : 0 ≤ s) (w : World) :
    Calls Try.prog 3 #[.int .u16 s, .int .i64 stop] w fun r w' => r = .returned (.bool true) ∧ Below w.heap.size w w' := by
  obtain ⟨c0, c9⟩ := cnt_fit s
  have hr := rise_set s s0
  have HR := Lib.hid hr
  obtain ⟨t1, t2⟩ := tells_rise stop (bits .and .u16 s 1022) 512 0 0 (-1) _ hr
  obtain ⟨T, hT⟩ : ∃ T, tells (bits .and .u16 s 1022) stop (bits .and .u16 s 1022) 512 0 0 (-1) true = T := ⟨_, rfl⟩
  obtain ⟨T1, T2, T3⟩ := T
  rw [hT] at t1 t2
  replace t1 : T3 = true := t1
  subst t1
  replace t2 : T1 = if 0 < stop ∧ stop ≤ 2 ^ (cnt s).toNat then stop else 2 ^ (cnt s).toNat := by
    have e : ((2 ^ (cnt s).toNat : Nat) : Int) = 2 ^ (cnt s).toNat := by push_cast; rfl
    simpa [e] using t2
  have HT := Lib.hid hT
  have HT1 := Lib.hid t2
  have hmf : ∀ (fn : Fn) (first cap : Array Value) (w : World), (Instr.makeFunc fn first cap).run Try.prog w = .ok (.func fn first cap) w := fun _ _ _ _ => rfl
  clear hr t2 hT
  go_enter Try.func3, Try.ntmps3
  go_wp2_with fail
  refine (begun9_any _).mono ?_; rintro r w1 ⟨rfl, hb1⟩
  go_wp2_with fail
  go_loopw [6, 7] (fun v i wr => ∃ (k : Nat) (p : Int), (k : Int) ≤ cnt s ∧ i = .int .i64 k ∧ v = .int .i64 p ∧ Hid (p = 2 ^ k) ∧ Below w.heap.size w wr) (fun _ i _ => (cnt s - intOf i).toNat)
  case atStart => exact ⟨0, 1, by omega, rfl, rfl, rfl, hb1⟩
  case round =>
    obtain ⟨k, p, hk, rfl, rfl, hp, hb⟩ := hrel
    obtain ⟨p1, p2⟩ := pow_grow (cnt s) k hk c9
    rw [← hp.out] at p1 p2
    have HB := Lib.hid hb
    clear hb
    by_cases hlt : (k : Int) < cnt s
    · go_wp2_with fail
      refine (count_any s _ s0).mono ?_; rintro r w2 ⟨rfl, hb2⟩
      have HB2 := Lib.hid (HB.out.trans (hb2.mono HB.out.size))
      clear hb2
      go_wp2_with fail
      go_roundw
      case rel => exact ⟨k + 1, p * 2, by omega, by go_num, rfl, by show _ = _; rw [hp.out]; exact (Int.pow_succ 2 k).symm, HB2.out⟩
      case measure => simp [intOf]; omega
    · have HP : Hid (p = 2 ^ (cnt s).toNat) := by show _ = _; rw [hp.out, show (cnt s).toNat = k by omega]
      go_wp2_with fail
      refine (count_any s _ s0).mono ?_; rintro r w2 ⟨rfl, hb2⟩
      have hb3 := HB.out.trans (hb2.mono HB.out.size)
      clear hb2
      go_wp2_with fail
      have HA := heap_last w2 (.cells (ctr 0 (-1) stop true (bits .and .u16 s 1022)) 28 (0, 0))
      have hb4 := hb3.trans ((below_new w2 (.cells (ctr 0 (-1) stop true (bits .and .u16 s 1022)) 28 (0, 0))).mono hb3.size)
      refine (subsets_any w2.heap.size s _ stop _ _ _ rfl HR.out HA).mono ?_; rintro r w3 ⟨rfl, hc, hb5⟩
      rw [HT.out] at hc
      have HB5 := Lib.hid (hb4.trans (hb5.mono hb3.size))
      have kA := block_cells hc
      have HT2 : Hid (T1 = if 0 < stop ∧ stop ≤ p then stop else p) := by show _ = _; rw [HP.out]; exact HT1.out
      clear HA hb3 hb4 hb5 hc HB HT HT1 HP HR hp
      go_wp2_with fail
      refine (subsetsNil_any _ _).mono ?_; rintro r w' ⟨rfl, rfl⟩
      by_cases a1 : 1 ≤ stop
      · by_cases a2 : stop ≤ p
        · have hq : (T1 == stop) = true := by rw [HT2.out, if_pos ⟨by omega, a2⟩]; simp
          go_wp2_with fail
          go_ret
          exact ⟨rfl, HB5.out⟩
        · have hq : (T1 == p) = true := by rw [HT2.out, if_neg (by omega)]; simp
          go_wp2_with fail
          go_ret
          exact ⟨rfl, HB5.out⟩
      · have hq : (T1 == p) = true := by rw [HT2.out, if_neg (by omega)]; simp
        go_wp2_with fail
        go_ret
        exact ⟨rfl, HB5.out⟩

set_option maxRecDepth 100000 in
theorem parts_lifted (os : Os) (started : os.Started) (H : Type) (enc : TypeId × Value → H) :
    ReturnsInHanded {} Try.checked os 3 .any (Rows.setsPartsSpec.pre6 enc Try.prog Try.f3 Rows.setsPartsRow.domain false) (Rows.setsPartsSpec.post enc Try.prog Try.f3 false true false false) := by
  refine lift_law (C := Try.checked) (tb := 4) (by kernel_rfl) started (by kernel_rfl) Try.func3 (ChangeSpec.witness6 (enc := enc) (C := Try.checked) false ⟨#[], #[.int .u16 0, .int .i64 0], []⟩ 8 (by kernel_rfl) (by kernel_rfl) (by kernel_rfl) (by kernel_rfl)) (by kernel_rfl) (by kernel_rfl) rfl Try.underlying4 rfl ?_ ?_
  · intro ds h
    match ds, h with
    | [_, _], _ => rfl
  · intro W base args ds ps hval0 hA0 hlt hsz
    have hval : ∀ (j : Nat) t v, Try.f3.params[j]? = some t → args[j]? = some v → Value.okWide Try.prog W .any base t v := hval0
    have hA : DataW.TrodAll enc Try.prog W 0 (fun _ => true) true Try.f3.params.toList args.toList ds ps := hA0
    rw [Try.params3] at hA hval
    obtain ⟨v0, v1, d0, d1, p0, p1, rfl, rfl, rfl, h0, h1⟩ := trodAll_two hA
    obtain ⟨s, rfl, rfl, rfl, ws⟩ := open_int Try.underlying23 (hval 0 23 v0 rfl rfl) h0
    obtain ⟨stop, rfl, rfl, rfl, wstop⟩ := open_int Try.underlying3 (hval 1 3 v1 rfl rfl) h1
    exact parts_walk s stop (wf_u16 ws).1 W

theorem parts_holds : Rows.SetsPartsSaid :=
  OpenClaim.holds_of_wide 3 Try.f3 rfl rfl rfl rfl rfl rfl rfl ⟨rfl, rfl, rfl, rfl, rfl⟩ rfl rfl rfl rfl rfl (by kernel_rfl) Try.func3 (by kernel_rfl)
    (of_decide_eq_true (by kernel_rfl)) (by unfold Func.isWrapper; first | (rw [if_pos (by decide +kernel)]; kernel_rfl) | (rw [if_neg (by decide +kernel)]; exact ⟨rfl, rfl⟩))
    (fun os started H enc _ => parts_lifted os started H enc)
#print axioms parts_holds

end Go.Proofs.Ytaaagidooieejaa
