import Derived.Test.YtjaabakobpabjaaGwD
import Derived.Test.YtjaabakobpabjaaCalm
import Derived.Test.YtjaabakobpabjaaLogJ
/- Wire: a joint's bytes: package wire's and the document's. -/
namespace Go.Proofs.Ytjaabakobpabjaa
open Go.ChangeShapes Go.WideShapes Go.ChangeAt Go.RowKit

structure CfX where
  v : Int
  x : Int
  l : Int
  e : Int
  k : Int
deriving DecidableEq
structure JoX where
  o : CfX
  n : CfX
  two : Bool
deriving DecidableEq
def In16 (n : Int) : Prop := 0 ≤ n ∧ n ≤ 65535
structure CfF (c : CfX) : Prop where
  v : In16 c.v
  x : In16 c.x
  l : In16 c.l
  e : In64 c.e
  k : In64 c.k
structure JoF (j : JoX) : Prop where
  o : CfF j.o
  n : CfF j.n
def put2 (x : Int) : List Int := bePre x 2 2
theorem put2_len (x : Int) : (put2 x).length = 2 := bePre_len x 2 2
def encCf (c : CfX) : List Int := [c.v, c.x, c.l].flatMap put2 ++ encN c.e ++ encN c.k
def encJo (j : JoX) : List Int := [j.o, j.n].flatMap encCf ++ encF j.two
theorem encCf_len {c : CfX} (h : CfF c) : (encCf c).length ≤ 26 := by
  have := (encN_len h.e).2; have := (encN_len h.k).2
  unfold encCf; simp only [List.flatMap_cons, List.flatMap_nil, List.length_append, put2_len, List.length_nil]; omega
def PutE2 (base : Nat) (v0 : Value) (X : World) (ys : List Int) (e : Ending) (w : World) : Prop := ∃ v, e = .returned (.tuple #[v, .int .i64 0]) ∧ Gw base v0 X v w ys
theorem put_gw (base : Nat) (v : Value) (xs : List Int) (x : Int) (w : World) (ho : w.ownsRow base 5 1 v xs.length (byt xs)) (hB : base ≤ w.heap.size) (hx : In16 x) (hb : (xs.length : Int) ≤ 140737488355320) :
    Calls Try.prog 71 #[v, .int .u64 x, .int .i64 2] w (PutE2 base v w (xs ++ put2 x)) := by
  have := put_ok w.heap.size v xs x 2 w (Sl.of_own ho) (Nat.le_refl _) hb hx.1 (by have := hx.2; omega) (by omega) (by omega) (by have := hx.2; show x < 2 ^ 16; omega)
  refine this.mono fun e w' ⟨v', he, ho', hb'⟩ => ⟨v', he, ?_, grown_below hb' _, fun k hk => .inr (ho'.lt k hk).1⟩
  have e2 : (xs ++ put2 x).length = xs.length + (2 : Int).toNat := by rw [List.length_append, put2_len]; rfl
  rw [e2]; exact ho'.mono hB
set_option maxRecDepth 100000 in
set_option maxHeartbeats 16000000 in
theorem wjoint_any (j : JoX) (w : World) (F : JoF j) :
    Calls Try.prog 39 #[.agg #[.int .u16 j.o.v, .int .u16 j.o.x, .int .u16 j.o.l, .int .i64 j.o.e, .int .i64 j.o.k, .int .u16 j.n.v, .int .u16 j.n.x, .int .u16 j.n.l, .int .i64 j.n.e, .int .i64 j.n.k, .bool j.two]] w (WEnd w.heap.size w.heap.size w (encJo j)) := by
  have HF := Lib.hid F
  clear F
  go_enter Try.func39, Try.ntmps39
  go_upto_region 3 with fail
  obtain ⟨W0, hW0⟩ : ∃ W, w.alloc (.cells #[.int .u16 j.o.v, .int .u16 j.o.x, .int .u16 j.o.l, .int .i64 j.o.e, .int .i64 j.o.k, .int .u16 j.n.v, .int .u16 j.n.x, .int .u16 j.n.l, .int .i64 j.n.e, .int .i64 j.n.k, .bool j.two] 42) = W := ⟨_, rfl⟩
  obtain ⟨W, hW⟩ : ∃ W, W0.alloc (.cells #[.int .u16 j.o.v, .int .u16 j.o.x, .int .u16 j.o.l, .int .i64 j.o.e, .int .i64 j.o.k, .int .u16 j.n.v, .int .u16 j.n.x, .int .u16 j.n.l, .int .i64 j.n.e, .int .i64 j.n.k] 40) = W := ⟨_, rfl⟩
  have s0 : W0.heap.size = w.heap.size + 1 := by rw [← hW0]; simp
  have b0 : Below w.heap.size w W0 := by rw [← hW0]; exact (Below.refl _ _).alloc (Nat.le_refl _) _
  have b1 : Below W0.heap.size W0 W := by rw [← hW]; exact (Below.refl _ _).alloc (Nat.le_refl _) _
  have hA : W.heap[w.heap.size]? = some (.cells #[.int .u16 j.o.v, .int .u16 j.o.x, .int .u16 j.o.l, .int .i64 j.o.e, .int .i64 j.o.k, .int .u16 j.n.v, .int .u16 j.n.x, .int .u16 j.n.l, .int .i64 j.n.e, .int .i64 j.n.k, .bool j.two] 42 (0, 0)) := below_block b1 (by omega) (by rw [← hW0]; exact heap_last w _)
  have hG : W.heap[W0.heap.size]? = some (.cells #[.int .u16 j.o.v, .int .u16 j.o.x, .int .u16 j.o.l, .int .i64 j.o.e, .int .i64 j.o.k, .int .u16 j.n.v, .int .u16 j.n.x, .int .u16 j.n.l, .int .i64 j.n.e, .int .i64 j.n.k] 40 (0, 0)) := by rw [← hW]; exact heap_last W0 _
  have HB1 := Lib.hid (b0.trans (b1.mono (by omega)))
  rw [hW0, hW]
  try rw [← s0]
  obtain ⟨A, eA⟩ : ∃ A, w.heap.size = A := ⟨_, rfl⟩
  obtain ⟨G, eG⟩ : ∃ G, W0.heap.size = G := ⟨_, rfl⟩
  have HEA := Lib.hid eA
  rw [eG] at hG ⊢
  rw [eA] at hA ⊢
  have HA := Lib.hid hA; have HG := Lib.hid hG
  clear hW0 hW s0 b0 b1 hA hG eA eG
  have hzW : W.heap.size ≤ W.heap.size := Nat.le_refl _
  have HG0 : Hid (Gw W.heap.size (.slice none 0 0) W (.slice none 0 0) W (([j.o, j.n].take 0).flatMap encCf)) := Gw.none _ _
  go_wp2_with fail
  go_loopw [3, 14] (fun u i wr => ∃ k : Nat, k ≤ 2 ∧ i = .int .i64 k ∧ Hid (Gw W.heap.size (.slice none 0 0) W u wr (([j.o, j.n].take k).flatMap encCf))) (fun _ i _ => 2 - (intOf i).toNat)
  case atStart => exact ⟨0, by omega, rfl, HG0⟩
  case round =>
    clear HG0
    obtain ⟨k, hk, rfl, HK⟩ := hrel
    obtain ⟨wk, rfl⟩ : ∃ wk : World, wk = wr := ⟨_, rfl⟩
    obtain ⟨vk, rfl⟩ : ∃ vk : Value, vk = u3 := ⟨_, rfl⟩
    by_cases hlt : k < 2
    · have hd : decide ((k : Int) < 2) = true := by simp; omega
      have hgt : (k : Int) < 2 := by omega
      have hlt2 : k < [j.o, j.n].length := hlt
      have hnx := flat_next (f := encCf) hlt2
      obtain ⟨c, hc⟩ : ∃ c, [j.o, j.n][k] = c := ⟨_, rfl⟩
      rw [hc] at hnx
      have hba := HK.out.all rfl
      have kg := block_cells (below_block hba (block_lt HG.out) HG.out)
      have hk01 : k = 0 ∨ k = 1 := by omega
      have HCF : Hid (CfF c) := by
        show CfF c
        rcases hk01 with rfl | rfl
        · rw [← hc]; exact HF.out.o
        · rw [← hc]; exact HF.out.n
      have hle : (([j.o, j.n].take k).flatMap encCf).length ≤ 26 := by
        rcases hk01 with rfl | rfl
        · simp
        · have := encCf_len HF.out.o; simpa using this
      have r0 : wk.cell? ⟨G, k * 5, none⟩ = some (.int .u16 c.v) := by
        rw [kg]
        rcases hk01 with rfl | rfl <;> (rw [← hc]; rfl)
      have r1 : wk.cell? ⟨G, k * 5 + 1, none⟩ = some (.int .u16 c.x) := by
        rw [kg]
        rcases hk01 with rfl | rfl <;> (rw [← hc]; rfl)
      have r2 : wk.cell? ⟨G, k * 5 + 2, none⟩ = some (.int .u16 c.l) := by
        rw [kg]
        rcases hk01 with rfl | rfl <;> (rw [← hc]; rfl)
      have r3 : wk.cell? ⟨G, k * 5 + 3, none⟩ = some (.int .i64 c.e) := by
        rw [kg]
        rcases hk01 with rfl | rfl <;> (rw [← hc]; rfl)
      have r4 : wk.cell? ⟨G, k * 5 + 4, none⟩ = some (.int .i64 c.k) := by
        rw [kg]
        rcases hk01 with rfl | rfl <;> (rw [← hc]; rfl)
      obtain ⟨Xk, hXk⟩ : ∃ X, ([j.o, j.n].take k).flatMap encCf = X := ⟨_, rfl⟩
      rw [hXk] at hnx hle
      have HXK : Hid (Gw W.heap.size (.slice none 0 0) W vk wk (Xk)) := by show Gw _ _ _ _ _ _; rw [← hXk]; exact HK.out
      have HNX := Lib.hid hnx; have HLE := Lib.hid hle
      clear kg hba hk01 hc hnx hXk HK hle hlt2
      go_upto_region 5 with fail
      clear r0 r1 r2 r3 r4
      obtain ⟨WB, hWB⟩ : ∃ x', wk.alloc (.cells #[.int .u16 c.v, .int .u16 c.x, .int .u16 c.l, .int .i64 c.e, .int .i64 c.k] 40) = x' := ⟨_, rfl⟩
      have hBX : WB.heap[wk.heap.size]? = some (.cells #[.int .u16 c.v, .int .u16 c.x, .int .u16 c.l, .int .i64 c.e, .int .i64 c.k] 40 (0, 0)) := by rw [← hWB]; exact heap_last wk _
      have hnb := HXK.out.fresh
      have HXB : Hid (Gw W.heap.size (.slice none 0 0) W vk WB (Xk)) := by show Gw _ _ _ _ _ _; rw [← hWB]; exact HXK.out.alloc _
      rw [hWB]
      obtain ⟨Bx, eBx⟩ : ∃ n, wk.heap.size = n := ⟨_, rfl⟩
      rw [eBx] at hBX hnb ⊢
      have HBX := Lib.hid hBX
      clear hWB eBx HXK
      have kb := block_cells hBX
      clear hBX
      go_upto_region 6 with fail
      clear kb
      obtain ⟨WS, hWS⟩ : ∃ x', WB.alloc (.cells #[.int .u16 c.v, .int .u16 c.x, .int .u16 c.l] 38) = x' := ⟨_, rfl⟩
      have hSX : WS.heap[WB.heap.size]? = some (.cells #[.int .u16 c.v, .int .u16 c.x, .int .u16 c.l] 38 (0, 0)) := by rw [← hWS]; exact heap_last WB _
      have hns := HXB.out.fresh
      have hBS : WS.heap[Bx]? = some (.cells #[.int .u16 c.v, .int .u16 c.x, .int .u16 c.l, .int .i64 c.e, .int .i64 c.k] 40 (0, 0)) := by rw [← hWS]; exact heap_prev _ HBX.out
      have HXS : Hid (Gw W.heap.size (.slice none 0 0) W vk WS (Xk ++ ([c.v, c.x, c.l].take 0).flatMap put2)) := by show Gw _ _ _ _ _ _; rw [← hWS, List.take_zero, List.flatMap_nil, List.append_nil]; exact HXB.out.alloc _
      rw [hWS]
      obtain ⟨Sx, eSx⟩ : ∃ n, WB.heap.size = n := ⟨_, rfl⟩
      rw [eSx] at hSX hns ⊢
      have HIN : Hid (Gw W.heap.size (.slice none 0 0) W vk WS (Xk ++ ([c.v, c.x, c.l].take 0).flatMap put2) ∧ (WS.heap[Bx]? = some (.cells #[.int .u16 c.v, .int .u16 c.x, .int .u16 c.l, .int .i64 c.e, .int .i64 c.k] 40 (0, 0)) ∧ vk.ownBlock ≠ some Bx) ∧ WS.heap[Sx]? = some (.cells #[.int .u16 c.v, .int .u16 c.x, .int .u16 c.l] 38 (0, 0)) ∧ vk.ownBlock ≠ some Sx) := ⟨HXS.out, ⟨hBS, hnb⟩, hSX, hns⟩
      clear hWS eSx hSX hns hBS hnb HXS HXB HBX
      go_wp2_with fail
      go_loopw [3, 26] (fun u i wr => ∃ m : Nat, m ≤ 3 ∧ i = .int .i64 m ∧ Hid (Gw W.heap.size (.slice none 0 0) W u wr (Xk ++ ([c.v, c.x, c.l].take m).flatMap put2) ∧ (wr.heap[Bx]? = some (.cells #[.int .u16 c.v, .int .u16 c.x, .int .u16 c.l, .int .i64 c.e, .int .i64 c.k] 40 (0, 0)) ∧ u.ownBlock ≠ some Bx) ∧ wr.heap[Sx]? = some (.cells #[.int .u16 c.v, .int .u16 c.x, .int .u16 c.l] 38 (0, 0)) ∧ u.ownBlock ≠ some Sx)) (fun _ i _ => 3 - (intOf i).toNat)
      case atStart => exact ⟨0, by omega, rfl, HIN⟩
      case round =>
        clear HIN
        obtain ⟨m, hm, rfl, HM⟩ := hrel
        obtain ⟨wm, rfl⟩ : ∃ wm : World, wm = wr := ⟨_, rfl⟩
        obtain ⟨vm, rfl⟩ : ∃ vm : Value, vm = u3 := ⟨_, rfl⟩
        by_cases hmt : m < 3
        · have hd2 : decide ((m : Int) < 3) = true := by simp; omega
          have hgm : (m : Int) < 3 := by omega
          have hm2 : m < [c.v, c.x, c.l].length := hmt
          have hny := flat_next (f := put2) hm2
          obtain ⟨s, hs⟩ : ∃ s, [c.v, c.x, c.l][m] = s := ⟨_, rfl⟩
          rw [hs] at hny
          have hm01 : m = 0 ∨ m = 1 ∨ m = 2 := by omega
          have hs16 : In16 s := by
            rcases hm01 with rfl | rfl | rfl
            · rw [← hs]; exact HCF.out.v
            · rw [← hs]; exact HCF.out.x
            · rw [← hs]; exact HCF.out.l
          have hlm : (([c.v, c.x, c.l].take m).flatMap put2).length ≤ 6 := by
            rcases hm01 with rfl | rfl | rfl <;> simp [put2_len]
          have rs : wm.cell? ⟨Sx, m, none⟩ = some (.int .u16 s) := by
            rw [block_cells HM.out.2.2.1]
            rcases hm01 with rfl | rfl | rfl <;> (rw [← hs]; rfl)
          have HNY : Hid (Xk ++ ([c.v, c.x, c.l].take m).flatMap put2 ++ put2 s = Xk ++ ([c.v, c.x, c.l].take (m + 1)).flatMap put2) := by show _ = _; rw [hny, List.append_assoc]
          have hzm : W.heap.size ≤ wm.heap.size := HM.out.1.hz hzW
          have HPU := Lib.hid (put_gw W.heap.size vm (Xk ++ ([c.v, c.x, c.l].take m).flatMap put2) s wm HM.out.1.own hzm hs16 (by have := HLE.out; rw [List.length_append]; omega))
          have hw16 : s % 18446744073709551616 = s := by obtain ⟨h1, h2⟩ := hs16; omega
          have hs0 : 0 ≤ s := hs16.1
          have hs1 : s ≤ 65535 := hs16.2
          clear hny hs hm01 hlm hm2 hs16 hzm
          go_wp2_with fail
          refine HPU.out.mono ?_; rintro e w9 ⟨v9, rfl, k9⟩
          rw [HNY.out] at k9
          have hq := k9.keep HM.out.2.1.1 HM.out.2.1.2
          have hr := k9.keep HM.out.2.2.1 HM.out.2.2.2
          have HR := Lib.hid (And.intro (HM.out.1.trans k9) (And.intro hq hr))
          clear k9 hq hr HPU HNY HM rs
          go_wp2_with fail
          go_roundw
          case rel => exact ⟨m + 1, by omega, by go_num, HR⟩
          case measure => simp [intOf]; omega
        · obtain rfl : m = 3 := by omega
          have hh := HM.out
          have hBm := hh.2.1.1; have hnm := hh.2.1.2
          have hg3 := hh.1
          obtain ⟨X3, hX3⟩ : ∃ X, Xk ++ ([c.v, c.x, c.l].take 3).flatMap put2 = X := ⟨_, rfl⟩
          rw [hX3] at hg3
          have HG3 := Lib.hid hg3
          have hl3 : X3.length ≤ 32 := by
            rw [← hX3, List.length_append]; have := HLE.out
            simp only [List.take_succ_cons, List.take_zero, List.flatMap_cons, List.flatMap_nil, List.length_append, put2_len, List.length_nil]; omega
          have HNX3 : Hid (([j.o, j.n].take (k + 1)).flatMap encCf = X3 ++ encN c.e ++ encN c.k) := by
            show _ = _; rw [HNX.out, ← hX3]; unfold encCf; simp
          have HBM := Lib.hid (And.intro hBm hnm)
          have kb := block_cells hBm
          have hzm : W.heap.size ≤ wm.heap.size := hg3.hz hzW
          clear hh hg3 hX3 HNX HM hBm hnm
          have hBn : Bx ≠ wm.heap.size := by have := block_lt HBM.out.1; omega
          have HI := Lib.hid (ints_gw2 W.heap.size vm X3 c.e c.k 2 wm.heap.size (wm.alloc (.cells #[.int .i64 c.e, .int .i64 c.k] 3)) (own_less HG3.out.own ((Below.refl _ _).alloc (Nat.le_refl _) _)) (by simp; omega) (heap_last wm _) HCF.out.e HCF.out.k (by omega))
          have HWA : Hid (Below wm.heap.size wm (wm.alloc (.cells #[.int .i64 c.e, .int .i64 c.k] 3))) := (Below.refl _ _).alloc (Nat.le_refl _) _
          go_wp2_with fail
          refine HI.out.mono ?_; rintro e w10 ⟨v10, rfl, k10⟩
          have HR : Hid (Gw W.heap.size (.slice none 0 0) W v10 w10 (([j.o, j.n].take (k + 1)).flatMap encCf)) := by
            show Gw _ _ _ _ _ _
            rw [HNX3.out, List.append_assoc]; exact (HG3.out.below HWA.out).trans k10
          clear kb HBM k10 HI HWA HNX3 HG3 hBn hzm
          go_wp2_with fail
          go_roundw
          case rel => exact ⟨k + 1, by omega, by go_num, HR⟩
          case measure => simp [intOf]; omega
    · obtain rfl : k = 2 := by omega
      have hh := HK.out
      have hle : (([j.o, j.n].take 2).flatMap encCf).length ≤ 52 := by
        have := encCf_len HF.out.o; have := encCf_len HF.out.n
        simp only [List.take_succ_cons, List.take_zero, List.flatMap_cons, List.flatMap_nil, List.length_append, List.length_nil]; omega
      obtain ⟨X4, hX4⟩ : ∃ X, ([j.o, j.n].take 2).flatMap encCf = X := ⟨_, rfl⟩
      rw [hX4] at hh hle
      have HE : Hid (X4 ++ encF j.two = encJo j) := by show _ = _; rw [← hX4]; rfl
      have kA := block_cells (below_block (hh.all rfl) (block_lt HA.out) HA.out)
      have HFL := Lib.hid (flag_gw W.heap.size vk X4 j.two wk hh.own (hh.hz hzW) (by omega))
      have HH := Lib.hid hh
      clear hh hX4 HK
      go_wp2_with fail
      refine HFL.out.mono ?_; rintro e w17 ⟨v17, rfl, k17⟩
      rw [HE.out] at k17
      have HR := Lib.hid (HH.out.trans k17)
      clear k17 kA HH HFL
      go_wp2_with fail
      go_ret
      exact ⟨_, rfl, HR.out.own.mono HB1.out.size, HB1.out.trans ((HR.out.all rfl).mono HB1.out.size)⟩
end Go.Proofs.Ytjaabakobpabjaa
/- Hard: the plain law: cores; what is written of one that is another one now; what records say. -/
namespace Go.Proofs.Ytjaabakobpabjaa

/-- A core. -/
structure Co where
  id : Int
  role : Int
  tm : Int
  vt : Int
  ld : Int
  wt : Int
  cm : Int
  sf : Int
  l : Lg
  sn : ByteArray
  vs : Int
  hd : Int
  nx : Nat → Int
  mt : Nat → Int
def lg0 : Lg := ⟨0, 0, jn0, []⟩
def co0 : Co := ⟨0, 0, 0, 0, 0, 0, 0, 0, lg0, ⟨#[]⟩, 0, 0, fun _ => 0, fun _ => 0⟩
def joX (j : Jn) : JoX := ⟨⟨j.ov, j.ox, j.ol, j.oe, j.ok⟩, ⟨j.nv, j.nx, j.nl, j.ne, j.nk⟩, j.two⟩
/-- A record: a letter, numbers. -/
def recB (c : Int) (l : List Int) : List Int := c :: l.flatMap encN
def entB (r i : Int) (e : Ent) : List Int := recB 69 [r, i, e.t, e.k] ++ encT e.d ++ (if e.k = 2 then encJo (joX e.j) else [])
def entsB (r : Int) : Int → List Ent → List (List Int)
  | _, [] => []
  | i, e :: es => entB r i e :: entsB r (i + 1) es
/-- How many entries stand in another log at the same numbers. -/
def preN (a : Lg) : Int → List Ent → Nat
  | _, [] => 0
  | i, e :: es => if atL a (i + 1) = (e, true) then preN a (i + 1) es + 1 else 0
def snapB (o n : Co) : Bool := decide (n.l.b ≠ o.l.b) || decide (n.l.bt ≠ o.l.bt) || decide (n.l.j ≠ o.l.j) || decide (n.sn ≠ o.sn)
def hardB (o n : Co) : Bool := decide (n.tm ≠ o.tm) || decide (n.vt ≠ o.vt)
/-- The elder log, if it goes on. -/
def wasL (o n : Co) : Lg := if snapB o n = true ∧ termL o.l n.l.b ≠ (n.l.bt, true) then ⟨n.l.b, 0, jn0, []⟩ else o.l
def cutB (o n : Co) : Bool := decide (n.l.b + preN (wasL o n) n.l.b n.l.es < (wasL o n).last)
def diffB (r : Int) (o n : Co) : List (List Int) :=
  (if hardB o n = true then [recB 72 [r, n.tm, n.vt]] else []) ++
  (if snapB o n = true then [recB 83 [r, n.l.b, n.l.bt] ++ encJo (joX n.l.j) ++ encT n.sn] else []) ++
  (if cutB o n = true then [recB 88 [r, n.l.b + preN (wasL o n) n.l.b n.l.es]] else []) ++
  entsB r (n.l.b + preN (wasL o n) n.l.b n.l.es + 1) (n.l.es.drop (preN (wasL o n) n.l.b n.l.es))
theorem preN_le (a : Lg) : ∀ (i : Int) (es : List Ent), preN a i es ≤ es.length
  | _, [] => Nat.le_refl _
  | i, e :: es => by
    unfold preN
    split
    · have := preN_le a (i + 1) es; simp only [List.length_cons]; omega
    · exact Nat.zero_le _
/-- Step by step: while the next one stands there. -/
theorem preN_at (a : Lg) : ∀ (i : Int) (es : List Ent) (k : Nat), (∀ j, (h : j < k) → ∃ h' : j < es.length, atL a (i + j + 1) = (es[j], true)) → (∀ h : k < es.length, atL a (i + k + 1) ≠ (es[k], true)) → k ≤ es.length → preN a i es = k
  | i, [], k, _, _, h => by simp at h; subst h; rfl
  | i, e :: es, 0, _, h, _ => by
    unfold preN
    rw [if_neg]
    have := h (by simp)
    simpa using this
  | i, e :: es, k + 1, h1, h2, h3 => by
    have h0 := h1 0 (Nat.zero_lt_succ _)
    obtain ⟨_, h0⟩ := h0
    unfold preN
    rw [if_pos (by simpa using h0), preN_at a (i + 1) es k (fun j hj => ?_) (fun h => ?_) (by simpa using h3)]
    · obtain ⟨h', hh⟩ := h1 (j + 1) (by omega)
      refine ⟨by simpa using h', ?_⟩
      rw [show i + 1 + (j : Int) + 1 = i + ((j + 1 : Nat) : Int) + 1 by omega]; simpa using hh
    · have := h2 (by simpa using h)
      rw [show i + 1 + (k : Int) + 1 = i + ((k + 1 : Nat) : Int) + 1 by omega]; simpa using this
end Go.Proofs.Ytjaabakobpabjaa
