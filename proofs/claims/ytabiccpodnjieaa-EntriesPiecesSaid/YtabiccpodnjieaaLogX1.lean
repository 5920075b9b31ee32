/- The law's own alike: all terms of another log, in their places. -/
import Derived.Test.YtabiccpodnjieaaLogX0
import Derived.Test.YtabiccpodnjieaaLogB
import Derived.Test.YtabiccpodnjieaaLogC
namespace Go.Proofs.Ytabiccpodnjieaa
open Go.ChangeShapes Go.WideShapes Go.ChangeAt Go.RowKit

set_option maxRecDepth 100000 in
set_option maxHeartbeats 8000000 in
theorem alike12_any (l o : Lg) (pl po : Option Addr) (cl co : Nat) (w : World) (hFL : LgFit l) (hFO : LgFit o) (el : EnSl w (.slice pl l.es.length cl) l.es) (eo : EnSl w (.slice po o.es.length co) o.es) (hob : o.b = 0) (hs : ∀ k, k < o.es.length → (atL l (1 + k)).2 = true ∧ (atL l (1 + k)).1.t = (atL o (1 + k)).1.t) :
    Calls Try.prog 28 #[.agg #[.int .i64 l.b, .int .i64 l.bt, .int .u16 l.j.ov, .int .u16 l.j.ox, .int .u16 l.j.ol, .int .i64 l.j.oe, .int .i64 l.j.ok, .int .u16 l.j.nv, .int .u16 l.j.nx, .int .u16 l.j.nl, .int .i64 l.j.ne, .int .i64 l.j.nk, .bool l.j.two, .slice pl l.es.length cl], .agg #[.int .i64 o.b, .int .i64 o.bt, .int .u16 o.j.ov, .int .u16 o.j.ox, .int .u16 o.j.ol, .int .i64 o.j.oe, .int .i64 o.j.ok, .int .u16 o.j.nv, .int .u16 o.j.nx, .int .u16 o.j.nl, .int .i64 o.j.ne, .int .i64 o.j.nk, .bool o.j.two, .slice po o.es.length co]] w fun r w' => r = .returned (.bool true) ∧ Below w.heap.size w w' := by
  have FL : Hid (LgFit l) := hFL
  have FO : Hid (LgFit o) := hFO
  have HS : Hid (∀ k, k < o.es.length → (atL l (1 + k)).2 = true ∧ (atL l (1 + k)).1.t = (atL o (1 + k)).1.t) := hs
  have hlast : Hid (o.last = o.es.length) := by show _ = _; unfold Lg.last; omega
  have hon := hFO.n
  have HEL := Lib.hid el; have HEO := Lib.hid eo
  clear hFL hFO hs el eo hob
  go_enter Try.func28, Try.ntmps28
  go_upto_region 1 with fail
  obtain ⟨W0, hW0⟩ : ∃ W0, w.alloc (.cells #[.int .i64 l.b, .int .i64 l.bt, .int .u16 l.j.ov, .int .u16 l.j.ox, .int .u16 l.j.ol, .int .i64 l.j.oe, .int .i64 l.j.ok, .int .u16 l.j.nv, .int .u16 l.j.nx, .int .u16 l.j.nl, .int .i64 l.j.ne, .int .i64 l.j.nk, .bool l.j.two, .slice pl l.es.length cl] 32) = W0 := ⟨_, rfl⟩
  obtain ⟨W, hW⟩ : ∃ W, W0.alloc (.cells #[.int .i64 o.b, .int .i64 o.bt, .int .u16 o.j.ov, .int .u16 o.j.ox, .int .u16 o.j.ol, .int .i64 o.j.oe, .int .i64 o.j.ok, .int .u16 o.j.nv, .int .u16 o.j.nx, .int .u16 o.j.nl, .int .i64 o.j.ne, .int .i64 o.j.nk, .bool o.j.two, .slice po o.es.length co] 32) = W := ⟨_, rfl⟩
  have hs0 : W0.heap.size = w.heap.size + 1 := by rw [← hW0]; simp
  have lo := Lies.new (HEO.out.keep (below_new _ _ hW0) (Nat.le_refl _)) hW
  rw [hs0] at lo
  have LO := Lib.hid lo
  have LL := Lib.hid ((Lies.new HEL.out hW0).keep (below_new _ _ hW))
  have HBW : Hid (Below w.heap.size w W) := (below_new _ _ hW0).trans ((below_new _ _ hW).mono (below_new _ _ hW0).size)
  rw [hW0, hW]
  clear hW hW0 hs0 lo HEL HEO
  obtain ⟨A, eA⟩ : ∃ A, w.heap.size = A := ⟨_, rfl⟩
  rw [eA] at LO LL ⊢
  clear eA
  obtain ⟨U, f, hU, hf, hg⟩ := calm_class (W); obtain ⟨u0, hu0⟩ := hg _ (Below.refl _ _); rw [hu0]; clear hu0
  have kA := fun u => block_cells (calm_heap hf LL.out.h u)
  have kO := fun u => block_cells (calm_heap hf LO.out.h u)
  have LA : Hid (∀ u, Calls Try.prog 32 #[.agg #[.int .i64 o.b, .int .i64 o.bt, .int .u16 o.j.ov, .int .u16 o.j.ox, .int .u16 o.j.ol, .int .i64 o.j.oe, .int .i64 o.j.ok, .int .u16 o.j.nv, .int .u16 o.j.nx, .int .u16 o.j.nl, .int .i64 o.j.ne, .int .i64 o.j.nk, .bool o.j.two, .slice po o.es.length co]] (f u) fun r w' => r = .returned (.int .i64 o.es.length) ∧ Below (f u).heap.size (f u) w') := fun u => by
    have := rlast_any o po co (f u) FO.out.b0 FO.out.b1 FO.out.n; rw [hlast.out] at this; exact this
  go_wp2_with fail
  go_loopw [5] (fun i wr => ∃ k : Nat, k ≤ o.es.length ∧ i = .int .i64 (1 + k) ∧ ∃ u, wr = f u) (fun i _ => 2000000 - (intOf i).toNat)
  case atStart => exact ⟨0, Nat.zero_le _, by simp, _, rfl⟩
  case round =>
    obtain ⟨k, hk, rfl, u, rfl⟩ := hrel
    by_cases hlt : k < o.es.length
    · have hd1 : decide (1 + (k : Int) ≤ (o.es.length : Int)) = true := by simp; omega
      obtain ⟨h1, h2⟩ := HS.out k hlt
      obtain ⟨⟨e, is⟩, hat⟩ : ∃ x, atL l (1 + k) = x := ⟨_, rfl⟩
      obtain ⟨⟨e2, is2⟩, hat2⟩ : ∃ x, atL o (1 + k) = x := ⟨_, rfl⟩
      rw [hat, hat2] at h2
      rw [hat] at h1
      simp only at h1 h2
      subst h1
      have hne : (e.t != e2.t) = false := by simpa using h2
      have HA1 := Lib.hid hat; have HA2 := Lib.hid hat2
      clear h2 hat hat2
      have A1 : Hid (∀ u, Calls Try.prog 31 #[.agg #[.int .i64 l.b, .int .i64 l.bt, .int .u16 l.j.ov, .int .u16 l.j.ox, .int .u16 l.j.ol, .int .i64 l.j.oe, .int .i64 l.j.ok, .int .u16 l.j.nv, .int .u16 l.j.nx, .int .u16 l.j.nl, .int .i64 l.j.ne, .int .i64 l.j.nk, .bool l.j.two, .slice pl l.es.length cl], .int .i64 (1 + k)] (f u) fun r w' => r = .returned (.tuple #[.agg #[.int .i64 e.t, .int .i64 e.k, .string e.d, .int .u16 e.j.ov, .int .u16 e.j.ox, .int .u16 e.j.ol, .int .i64 e.j.oe, .int .i64 e.j.ok, .int .u16 e.j.nv, .int .u16 e.j.nx, .int .u16 e.j.nl, .int .i64 e.j.ne, .int .i64 e.j.nk, .bool e.j.two], .bool true]) ∧ Below (f u).heap.size (f u) w') := fun u => rat_any l pl cl (1 + k) (f u) FL.out.b0 FL.out.b1 FL.out.n (by omega) (by omega) (LL.out.e.keep (hf u) (Nat.le_refl _)) HA1.out
      go_upto_region 5 with (first | (go_at_call 32; refine (LA.out _).mono ?_; rintro r w' ⟨rfl, hb⟩; obtain ⟨u, rfl⟩ := calm_step hf hg hb; clear hb) | (go_at_call 31; refine (A1.out _).mono ?_; rintro r w' ⟨rfl, hb⟩; obtain ⟨u, rfl⟩ := calm_step hf hg hb; clear hb))
      obtain ⟨W10, hW10⟩ : ∃ W10, (f u).alloc (.cells #[.int .i64 e.t, .int .i64 e.k, .string e.d, .int .u16 e.j.ov, .int .u16 e.j.ox, .int .u16 e.j.ol, .int .i64 e.j.oe, .int .i64 e.j.ok, .int .u16 e.j.nv, .int .u16 e.j.nx, .int .u16 e.j.nl, .int .i64 e.j.ne, .int .i64 e.j.nk, .bool e.j.two] 47) = W10 := ⟨_, rfl⟩
      have hE10 : W10.heap[(f u).heap.size]? = some (.cells #[.int .i64 e.t, .int .i64 e.k, .string e.d, .int .u16 e.j.ov, .int .u16 e.j.ox, .int .u16 e.j.ol, .int .i64 e.j.oe, .int .i64 e.j.ok, .int .u16 e.j.nv, .int .u16 e.j.nx, .int .u16 e.j.nl, .int .i64 e.j.ne, .int .i64 e.j.nk, .bool e.j.two] 47 (0, 0)) := by rw [← hW10]; exact heap_last _ _
      have hB10 := Lib.hid ((hf u).trans ((below_new _ _ hW10).mono (hf u).size))
      rw [hW10]
      obtain ⟨F, eF⟩ : ∃ D, (f u).heap.size = D := ⟨_, rfl⟩
      rw [eF] at hE10 ⊢
      clear hW10 eF A1 kA
      have hO10 := LO.out.keep hB10.out
      have ko := hO10.cell
      have HA := rat_any o po co (1 + k) W10 FO.out.b0 FO.out.b1 FO.out.n (by omega) (by omega) hO10.e HA2.out
      have HA' := Lib.hid HA
      have HE10 := Lib.hid hE10
      clear HA hO10 hE10 kO
      go_wp2_with fail
      refine HA'.out.mono ?_; rintro r w11 ⟨rfl, hb11⟩
      have HE11 := Lib.hid (below_block hb11 (block_lt HE10.out) HE10.out)
      have HB11 := Lib.hid (hB10.out.trans (hb11.mono hB10.out.size))
      clear hb11 HA' HE10 hB10 ko
      go_upto_region 6 with fail
      obtain ⟨W12, hW12⟩ : ∃ W10, w11.alloc (.cells #[.int .i64 e2.t, .int .i64 e2.k, .string e2.d, .int .u16 e2.j.ov, .int .u16 e2.j.ox, .int .u16 e2.j.ol, .int .i64 e2.j.oe, .int .i64 e2.j.ok, .int .u16 e2.j.nv, .int .u16 e2.j.nx, .int .u16 e2.j.nl, .int .i64 e2.j.ne, .int .i64 e2.j.nk, .bool e2.j.two] 47) = W10 := ⟨_, rfl⟩
      have hE12 : W12.heap[w11.heap.size]? = some (.cells #[.int .i64 e2.t, .int .i64 e2.k, .string e2.d, .int .u16 e2.j.ov, .int .u16 e2.j.ox, .int .u16 e2.j.ol, .int .i64 e2.j.oe, .int .i64 e2.j.ok, .int .u16 e2.j.nv, .int .u16 e2.j.nx, .int .u16 e2.j.nl, .int .i64 e2.j.ne, .int .i64 e2.j.nk, .bool e2.j.two] 47 (0, 0)) := by rw [← hW12]; exact heap_last _ _
      have hE11 := below_block (below_new _ _ hW12) (block_lt HE11.out) HE11.out
      have hB12 := Lib.hid (HB11.out.trans ((below_new _ _ hW12).mono HB11.out.size))
      have HUP : Hid (∃ v, W12 = f v) := hg _ hB12.out
      rw [hW12]
      obtain ⟨G, eG⟩ : ∃ D, w11.heap.size = D := ⟨_, rfl⟩
      rw [eG] at hE12 ⊢
      have k1 := block_cells hE11
      have k2 := block_cells hE12
      clear hW12 eG HE11 HB11 hE11 hE12
      go_wp2_with fail
      go_roundw
      case rel => exact ⟨k + 1, by omega, by go_num, HUP.out⟩
      case measure => simp [intOf]; omega
    · obtain rfl : k = o.es.length := by omega
      have hd1 : decide (1 + (o.es.length : Int) ≤ (o.es.length : Int)) = false := by simp; omega
      go_wp2_with (first | (go_at_call 32; refine (LA.out _).mono ?_; rintro r w' ⟨rfl, hb⟩; obtain ⟨u, rfl⟩ := calm_step hf hg hb; clear hb))
      go_ret
      exact ⟨rfl, HBW.out.trans ((hf _).mono HBW.out.size)⟩
end Go.Proofs.Ytabiccpodnjieaa
