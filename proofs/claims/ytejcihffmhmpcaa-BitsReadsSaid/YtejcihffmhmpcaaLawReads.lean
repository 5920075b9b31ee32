/- BitsReads: whatever bytes: numbers and texts are read as the document has it, errors are told, and the bytes that came in are kept; no condition. -/
import Derived.Test.YtejcihffmhmpcaaTakeT
import Derived.Test.YtejcihffmhmpcaaRefGet
import Derived.Test.YtejcihffmhmpcaaSpoil
import Derived.Test.YtejcihffmhmpcaaBits
import Derived.Test.YtejcihffmhmpcaaFrame
import Derived.Test.YtejcihffmhmpcaaCalm
import Derived.Test.YtejcihffmhmpcaaRows
namespace Go.Proofs.Ytejcihffmhmpcaa
open Go.ChangeShapes Go.WideShapes Go.ChangeAt Go.RowKit

theorem own_below {B : Nat} {w w' : World} {base : Nat} {e : TypeId} {size : Nat} {v : Value} {n : Nat} {xs : List Value} (h : w.ownsRow base e size v n xs) (hb : Below B w w') (hB : w.heap.size ≤ B) : w'.ownsRow base e size v n xs :=
  h.kept (row := none) ⟨hb.os, hb.tape, hb.output, hb.size, fun k hk _ => hb.block k (by omega)⟩ (by cases v.ownBlock <;> simp)
theorem own_text {w w' : World} {B : Nat} {v : Value} {ys : List Int} {s : ByteArray} (hs : strOfNums ys = s) (h : w.ownsRow B 5 1 v ys.length (byt ys)) (hb : Below w.heap.size w w') : (convert 27 9 v).run Try.prog w' = .ok (.string s) w' := by
  rw [← hs]; exact run_convert_sl ((Sl.of_own h).keep hb) 27 5 Try.underlying27 Try.underlying5 9 Try.underlying9
theorem wf_u8 {n : Int} (h : (Lit.int .u8 n).wf = true) : 0 ≤ n ∧ n ≤ 255 := by
  have h1 : IntKind.u8.min = 0 := rfl
  have h2 : IntKind.u8.max = 255 := rfl
  simp only [Lit.wf, Bool.and_eq_true, decide_eq_true_eq] at h; omega
/-- The twin's row. -/
def Tw (g : Nat) (xs : List Int) (w : World) : Prop := w.heap[g]? = some (.cells (byt (xs ++ [229, 229, 229])).toArray 5 (0, 0))
theorem tw_sl {g : Nat} {xs : List Int} {w : World} (h : Tw g xs w) (hn : (xs.length : Int) ≤ 140737488355320) : Sl w.heap.size w (.slice (some ⟨g, 0, none⟩) xs.length (xs.length + 3)) 1 xs.length (byt xs) :=
  sl_row h (by simp [byt]) (by simp [byt]) (by omega) (by unfold maxLen; omega)
theorem tw_keep {g B : Nat} {xs : List Int} {w w' : World} (h : Tw g xs w) (hb : Below B w w') (hg : g < B) : Tw g xs w' := (hb.block g hg).trans h

/-- What Get comes to. -/
def getE (l p n : Int) : Int := if n < 1 ∨ 8 < n ∨ p < 0 then 1 else if l - n < p then 2 else 0
def getV (xs : List Int) (p n : Int) : Int := if getE xs.length p n = 0 then beVal ((xs.drop p.toNat).take n.toNat) else 0
theorem get_un (B : Nat) (v : Value) (xs : List Int) (hx : ∀ x ∈ xs, 0 ≤ x ∧ x ≤ 255) (p n : Int) (w : World) (hs : Sl B w v 1 xs.length (byt xs)) :
    Calls Try.prog 28 #[v, .int .i64 p, .int .i64 n] w fun e w' => e = .returned (.tuple #[.int .u64 (getV xs p n), .int .i64 (getE xs.length p n)]) ∧ w = w' := by
  by_cases h1 : n < 1 ∨ 8 < n ∨ p < 0
  · have hE : getE xs.length p n = 1 := by unfold getE; rw [if_pos h1]
    have hV : getV xs p n = 0 := by unfold getV; rw [hE]; rfl
    rw [hE, hV]; exact get_arg v p n w h1
  · by_cases h2 : (xs.length : Int) - n < p
    · have hE : getE xs.length p n = 2 := by unfold getE; rw [if_neg h1, if_pos h2]
      have hV : getV xs p n = 0 := by unfold getV; rw [hE]; rfl
      rw [hE, hV]; exact get_short B v xs p n w hs (by omega) (by omega) (by omega) h2
    · have hE : getE xs.length p n = 0 := by unfold getE; rw [if_neg h1, if_neg h2]
      obtain ⟨p, rfl⟩ := Int.eq_ofNat_of_zero_le (show 0 ≤ p by omega)
      obtain ⟨n, rfl⟩ := Int.eq_ofNat_of_zero_le (show 0 ≤ n by omega)
      have hV : getV xs p n = beVal ((xs.drop p).take n) := by unfold getV; rw [if_pos hE, Int.toNat_natCast, Int.toNat_natCast]
      rw [hE, hV]; exact get_ok B v xs hx p n w hs (by omega) (by omega) (by omega)
theorem refGet_un (B : Nat) (v : Value) (xs : List Int) (hx : ∀ x ∈ xs, 0 ≤ x ∧ x ≤ 255) (p n : Int) (w : World) (hs : Sl B w v 1 xs.length (byt xs)) :
    Calls Try.prog 29 #[v, .int .i64 p, .int .i64 n] w fun e w' => e = .returned (.tuple #[.int .u64 (getV xs p n), .int .i64 (getE xs.length p n)]) ∧ w = w' := by
  by_cases h1 : n < 1 ∨ 8 < n ∨ p < 0
  · have hE : getE xs.length p n = 1 := by unfold getE; rw [if_pos h1]
    have hV : getV xs p n = 0 := by unfold getV; rw [hE]; rfl
    rw [hE, hV]; exact refGet_arg v p n w h1
  · by_cases h2 : (xs.length : Int) - n < p
    · have hE : getE xs.length p n = 2 := by unfold getE; rw [if_neg h1, if_pos h2]
      have hV : getV xs p n = 0 := by unfold getV; rw [hE]; rfl
      rw [hE, hV]; exact refGet_short B v xs p n w hs (by omega) (by omega) (by omega) h2
    · have hE : getE xs.length p n = 0 := by unfold getE; rw [if_neg h1, if_neg h2]
      obtain ⟨p, rfl⟩ := Int.eq_ofNat_of_zero_le (show 0 ≤ p by omega)
      obtain ⟨n, rfl⟩ := Int.eq_ofNat_of_zero_le (show 0 ≤ n by omega)
      have hV : getV xs p n = beVal ((xs.drop p).take n) := by unfold getV; rw [if_pos hE, Int.toNat_natCast, Int.toNat_natCast]
      rw [hE, hV]; exact refGet_ok B v xs hx p n w hs (by omega) (by omega) (by omega)

set_option maxRecDepth 100000 in
set_option maxHeartbeats 8000000 in
theorem reads_walk (bv : Value) (p n : Int) (xs : List Int) (hx : ∀ x ∈ xs, 0 ≤ x ∧ x ≤ 255) (w : World) (hs : Sl w.heap.size w bv 1 xs.length (byt xs)) :
    Calls Try.prog 6 #[bv, .int .i64 p, .int .i64 n] w fun r w' => r = .returned (.bool true) ∧ Below w.heap.size w w' := by
  have HS := Lib.hid hs
  have HX := Lib.hid hx
  obtain ⟨pa, ca, rfl, h1, h2, -, -⟩ := hs.form
  unfold maxLen at h2
  clear hs hx
  by_cases hl : 65536 < xs.length
  · go_enter Try.func6, Try.ntmps6
    go_wp2_with fail
    refine (begun_any _).mono ?_; rintro r w1 ⟨rfl, hb⟩
    go_wp2_with fail
    go_ret
    exact ⟨rfl, hb⟩
  obtain ⟨gv, hgv⟩ : ∃ g, getV xs p n = g := ⟨_, rfl⟩
  obtain ⟨ge, hge⟩ : ∃ g, getE xs.length p n = g := ⟨_, rfl⟩
  obtain ⟨t, ht⟩ : ∃ t, takeV xs = t := ⟨_, rfl⟩
  obtain ⟨r, hr⟩ : ∃ r, textR xs = r := ⟨_, rfl⟩
  obtain ⟨t1, t2, t3⟩ := t
  obtain ⟨ys, r2, r3⟩ := r
  obtain ⟨s, hstr⟩ : ∃ s, strOfNums ys = s := ⟨_, rfl⟩
  have GU := Lib.hid (fun B v w h => get_un B v xs HX.out p n w h)
  have GR := Lib.hid (fun B v w h => refGet_un B v xs HX.out p n w h)
  have TV := Lib.hid (fun B v w h => takeVar_any B v xs HX.out w h)
  have TR := Lib.hid (fun B v w h => refTakeVar_any B v xs HX.out w h)
  have XV := Lib.hid (fun B v w h hB => takeText_any B v xs HX.out w h hB (by omega))
  have XR := Lib.hid (fun B v w h hB => refTakeText_any B v xs HX.out w h hB (by omega))
  rw [hgv, hge] at GU GR
  rw [ht] at TV TR
  rw [hr] at XV XR
  have ES := Lib.hid hstr
  clear hgv hge ht hr hstr
  go_enter Try.func6, Try.ntmps6
  go_wp2_with fail
  refine (begun_any _).mono ?_; rintro r w1 ⟨rfl, hb1⟩
  have S1 := Lib.hid (HS.out.keep hb1)
  go_wp2_with fail
  refine (twin_any w.heap.size _ xs _ S1.out hb1.size (by omega)).mono ?_; rintro r w2 ⟨ga, rfl, hga, ta, hb2⟩
  replace hb2 := hb1.trans (hb2.mono hb1.size)
  replace ta : Tw ga xs w2 := ta
  have hla := (Array.getElem?_eq_some_iff.1 ta).1
  clear S1 hb1
  have TT := Lib.hid ta
  clear ta
  go_wp2_with fail
  go_loopw [8] (fun i wr => ∃ k : Nat, k ≤ 2 ∧ i = .int .i64 k ∧ Hid (Tw ga xs wr) ∧ ga < wr.heap.size ∧ Below w.heap.size w wr) (fun i _ => 2 - (intOf i).toNat)
  case atStart => exact ⟨0, by omega, rfl, TT, hla, hb2⟩
  case round =>
    obtain ⟨k, hk, rfl, TT, hla, hb⟩ := hrel
    obtain ⟨wk, rfl⟩ : ∃ wk : World, wk = wr := ⟨_, rfl⟩
    clear hb2
    by_cases hlt : k < 2
    · have BK := Lib.hid hb
      have hsk := hb.size
      clear hb
      have SW := Lib.hid (tw_sl TT.out (by omega))
      have SB := Lib.hid (HS.out.keep BK.out)
      go_wp2_with fail
      refine (GU.out _ _ _ SW.out).mono ?_; rintro r w' ⟨rfl, rfl⟩
      go_wp2_with fail
      refine (GR.out _ _ _ SB.out).mono ?_; rintro r w' ⟨rfl, rfl⟩
      go_wp2_with fail
      refine (TV.out _ _ _ SW.out).mono ?_; rintro r w' ⟨rfl, rfl⟩
      go_wp2_with fail
      refine (TR.out _ _ _ SB.out).mono ?_; rintro r w' ⟨rfl, rfl⟩
      go_wp2_with fail
      refine (XV.out _ _ _ SW.out (Nat.le_refl _)).mono ?_; rintro r wx ⟨vx, rfl, ox, hbx⟩
      have hsx := hbx.size
      have Sx := Lib.hid (HS.out.keep (BK.out.trans (hbx.mono hsk)))
      go_wp2_with fail
      refine (XR.out _ _ _ Sx.out (by omega)).mono ?_; rintro r wy ⟨vy, rfl, oy, hby⟩
      replace ox := own_below ox hby (Nat.le_refl _)
      replace hby := hbx.trans (hby.mono hsx)
      have hsy := hby.size
      have kx := own_text ES.out ox (Below.refl _ _)
      have ky := own_text ES.out oy (Below.refl _ _)
      have OX := Lib.hid ox
      have Sy := Lib.hid (HS.out.keep (BK.out.trans (hby.mono hsk)))
      have Ty := Lib.hid (tw_keep TT.out hby hla)
      have HBY := Lib.hid hby
      clear hbx Sx ox oy hby
      go_wp2_with fail
      refine (kept_any w.heap.size _ xs ga _ Sy.out (by omega) Ty.out).mono ?_; rintro r w' ⟨rfl, rfl⟩
      clear kx ky
      go_wp2_with fail
      refine (spoil_any wk.heap.size _ _ _ _ OX.out).mono ?_; rintro r w4 ⟨rfl, gx⟩
      have B4 := Lib.hid (HBY.out.grown gx hsy (fun k h => (OX.out.lt k h).1))
      have T4 := Lib.hid (tw_keep TT.out B4.out hla)
      have hs4 := B4.out.size
      have HB4 := Lib.hid (BK.out.trans (B4.out.mono hsk))
      clear gx
      go_wp2_with fail
      go_roundw
      case rel => exact ⟨k + 1, by omega, by go_num, T4, by omega, HB4.out⟩
      case measure => simp [intOf]; omega
    · go_wp2_with fail
      go_ret
      exact ⟨rfl, hb⟩


set_option maxRecDepth 100000 in
theorem breads_lifted (os : Os) (started : os.Started) (H : Type) (enc : TypeId × Value → H) :
    ReturnsInHanded {} Try.checked os 6 .any (Rows.bitsReadsSpec.pre6 enc Try.prog Try.f6 Rows.bitsReadsRow.domain false) (Rows.bitsReadsSpec.post enc Try.prog Try.f6 false true false false) := by
  refine lift_law (C := Try.checked) (tb := 4) (by kernel_rfl) started (by kernel_rfl) Try.func6 (ChangeSpec.witness6 (enc := enc) (C := Try.checked) false ⟨#[], #[.slice none 0 0, .int .i64 0, .int .i64 0], []⟩ 8 (by kernel_rfl) (by kernel_rfl) (by kernel_rfl) (by kernel_rfl)) (by kernel_rfl) (by kernel_rfl) rfl Try.underlying4 rfl ?_ ?_
  · intro ds h
    match ds, h with
    | [_, _, _], _ => rfl
  · intro W base args ds ps hval0 hA0 hlt hsz
    have hval : ∀ (j : Nat) t v, Try.f6.params[j]? = some t → args[j]? = some v → Value.okWide Try.prog W .any base t v := hval0
    have hA : DataW.TrodAll enc Try.prog W 0 (fun _ => true) true Try.f6.params.toList args.toList ds ps := hA0
    rw [Try.params6] at hA hval
    obtain ⟨v0, v1, v2, d0, d1, d2, p0, p1, p2, rfl, rfl, rfl, h0, h1, h2⟩ := trodAll_three hA
    obtain ⟨xs, hs, hw⟩ := open_nums Try.underlying27 Try.underlying5 (by kernel_rfl) (hval 0 27 v0 rfl rfl) h0
    obtain ⟨p, rfl, rfl, rfl, wp⟩ := open_int Try.underlying3 (hval 1 3 v1 rfl rfl) h1
    obtain ⟨n, rfl, rfl, rfl, wn⟩ := open_int Try.underlying3 (hval 2 3 v2 rfl rfl) h2
    exact reads_walk v0 p n xs (fun x hm => wf_u8 (hw x hm)) W hs

theorem breads_holds : Rows.BitsReadsSaid :=
  OpenClaim.holds_of_wide 6 Try.f6 rfl rfl rfl rfl rfl rfl rfl ⟨rfl, rfl, rfl, rfl, rfl⟩ rfl rfl rfl rfl rfl (by kernel_rfl) Try.func6 (by kernel_rfl)
    (of_decide_eq_true (by kernel_rfl)) (by unfold Func.isWrapper; first | (rw [if_pos (by decide +kernel)]; kernel_rfl) | (rw [if_neg (by decide +kernel)]; exact ⟨rfl, rfl⟩))
    (fun os started H enc _ => breads_lifted os started H enc)
#print axioms breads_holds

end Go.Proofs.Ytejcihffmhmpcaa
