import Derived.Test.YtbnndbdnejfehaaGreatDoorActT
import Derived.Test.YtbnndbdnejfehaaGreatDoorLogZa
import Derived.Test.YtbnndbdnejfehaaGreatDoorLogZc
import Derived.Test.YtbnndbdnejfehaaGreatDoorLogW
import Derived.Test.YtbnndbdnejfehaaGreatDoorPlainTurns
import Derived.Test.YtbnndbdnejfehaaGreatDoorLogP
import Derived.Test.YtbnndbdnejfehaaGreatDoorConf3
/- Core: methods of an act that take others' entries: what they meet. -/
namespace Go.Proofs.YtbnndbdnejfehaaGreatDoor
open Go.ChangeShapes Go.WideShapes Go.ChangeAt Go.RowKit

end Go.Proofs.YtbnndbdnejfehaaGreatDoor
/- Core: methods of an act that takes others' entries: whether they may be; who is followed (the program's). -/
namespace Go.Proofs.YtbnndbdnejfehaaGreatDoor
open Go.ChangeShapes Go.WideShapes Go.ChangeAt Go.RowKit

theorem jMay (J : Jn) (w : World) : Calls Tryz.prog 62 #[.agg #[.int .u16 J.ov, .int .u16 J.ox, .int .u16 J.ol, .int .i64 J.oe, .int .i64 J.ok, .int .u16 J.nv, .int .u16 J.nx, .int .u16 J.nl, .int .i64 J.ne, .int .i64 J.nk, .bool J.two]] w fun r w' => r = .returned (.bool (jnM J)) ∧ Below w.heap.size w w' :=
  confMayJoint_any J.ov J.ox J.ol J.oe J.ok J.nv J.nx J.nl J.ne J.nk J.two w
set_option maxRecDepth 100000 in
set_option maxHeartbeats 16000000 in
theorem mayConfs_any (es : List Ent) (p : Option Addr) (c : Nat) (w : World) (hn : es.length ≤ 1000000) (hE : EnSl w (.slice p es.length c) es) :
    Calls Tryz.prog 63 #[.slice p es.length c] w fun r w' => r = .returned (.bool (es.all enM)) ∧ Below w.heap.size w w' := by
  have HE := Lib.hid hE
  obtain ⟨M, hM⟩ : ∃ M, es.all enM = M := ⟨_, rfl⟩
  have HM := Lib.hid hM
  rw [hM]
  clear hE hM
  go_enter Tryz.func63, Tryz.ntmps63
  go_wp2_with fail
  go_loopw [7] (fun i wr => ∃ k : Nat, k ≤ es.length ∧ i = .int .i64 k ∧ Hid (M = (es.drop k).all enM) ∧ Hid (Below w.heap.size w wr)) (fun i _ => es.length - (intOf i).toNat)
  case atStart => exact ⟨0, Nat.zero_le _, rfl, by show _ = _; rw [← HM.out, List.drop_zero], Below.refl _ _⟩
  case round =>
    obtain ⟨k, hk, rfl, HT, HB⟩ := hrel
    obtain ⟨wk, rfl⟩ : ∃ wk : World, wk = wr := ⟨_, rfl⟩
    by_cases hlt : k < es.length
    · obtain ⟨g, o, cap, hv, hgl, hc⟩ := (HE.out.keep HB.out (Nat.le_refl _)).at k hlt
      simp only [Value.slice.injEq] at hv
      obtain ⟨rfl, -⟩ := hv
      have hS : M = (enM es[k] && (es.drop (k + 1)).all enM) := by rw [HT.out, enM_at hlt]
      obtain ⟨e, he⟩ : ∃ e, es[k] = e := ⟨_, rfl⟩
      rw [he] at hc hS
      have HS := Lib.hid hS
      have hq0 : wk.cell? ⟨g, o + k * 14, none⟩ = some (.int .i64 e.t) := hc 0 (by decide)
      have hq1 : wk.cell? ⟨g, o + k * 14 + 1, none⟩ = some (.int .i64 e.k) := hc 1 (by decide)
      have hq2 : wk.cell? ⟨g, o + k * 14 + 2, none⟩ = some (.string e.d) := hc 2 (by decide)
      have hq3 : wk.cell? ⟨g, o + k * 14 + 3, none⟩ = some (.int .u16 e.j.ov) := hc 3 (by decide)
      have hq4 : wk.cell? ⟨g, o + k * 14 + 4, none⟩ = some (.int .u16 e.j.ox) := hc 4 (by decide)
      have hq5 : wk.cell? ⟨g, o + k * 14 + 5, none⟩ = some (.int .u16 e.j.ol) := hc 5 (by decide)
      have hq6 : wk.cell? ⟨g, o + k * 14 + 6, none⟩ = some (.int .i64 e.j.oe) := hc 6 (by decide)
      have hq7 : wk.cell? ⟨g, o + k * 14 + 7, none⟩ = some (.int .i64 e.j.ok) := hc 7 (by decide)
      have hq8 : wk.cell? ⟨g, o + k * 14 + 8, none⟩ = some (.int .u16 e.j.nv) := hc 8 (by decide)
      have hq9 : wk.cell? ⟨g, o + k * 14 + 9, none⟩ = some (.int .u16 e.j.nx) := hc 9 (by decide)
      have hq10 : wk.cell? ⟨g, o + k * 14 + 10, none⟩ = some (.int .u16 e.j.nl) := hc 10 (by decide)
      have hq11 : wk.cell? ⟨g, o + k * 14 + 11, none⟩ = some (.int .i64 e.j.ne) := hc 11 (by decide)
      have hq12 : wk.cell? ⟨g, o + k * 14 + 12, none⟩ = some (.int .i64 e.j.nk) := hc 12 (by decide)
      have hq13 : wk.cell? ⟨g, o + k * 14 + 13, none⟩ = some (.bool e.j.two) := hc 13 (by decide)
      have hd1 : decide ((k : Int) < (es.length : Int)) = true := by simp; omega
      clear hc he hS HT
      go_upto_region 4 with fail
      obtain ⟨W, hW⟩ : ∃ W, wk.alloc (.cells #[.int .i64 e.t, .int .i64 e.k, .string e.d, .int .u16 e.j.ov, .int .u16 e.j.ox, .int .u16 e.j.ol, .int .i64 e.j.oe, .int .i64 e.j.ok, .int .u16 e.j.nv, .int .u16 e.j.nx, .int .u16 e.j.nl, .int .i64 e.j.ne, .int .i64 e.j.nk, .bool e.j.two] 47) = W := ⟨_, rfl⟩
      have hX := heap_last wk (.cells #[.int .i64 e.t, .int .i64 e.k, .string e.d, .int .u16 e.j.ov, .int .u16 e.j.ox, .int .u16 e.j.ol, .int .i64 e.j.oe, .int .i64 e.j.ok, .int .u16 e.j.nv, .int .u16 e.j.nx, .int .u16 e.j.nl, .int .i64 e.j.ne, .int .i64 e.j.nk, .bool e.j.two] 47)
      have hb : Below wk.heap.size wk W := by rw [← hW]; exact (Below.refl _ _).alloc (Nat.le_refl _) _
      obtain ⟨X, eX⟩ : ∃ X, wk.heap.size = X := ⟨_, rfl⟩
      rw [hW] at hX ⊢
      (try rw [eX])
      rw [eX] at hX
      have kX := block_cells hX
      have HB1 := Lib.hid (HB.out.trans (hb.mono HB.out.size))
      clear hW hX hb eX hq0 hq1 hq2 hq3 hq4 hq5 hq6 hq7 hq8 hq9 hq10 hq11 hq12 hq13
      by_cases hk2 : e.k = 2
      · have hd2 : (e.k == 2) = true := by simp [hk2]
        obtain ⟨J, hJ⟩ : ∃ J, e.j = J := ⟨_, rfl⟩
        rw [hJ] at kX
        obtain ⟨b, hb⟩ : ∃ b, jnM J = b := ⟨_, rfl⟩
        have HMJ := Lib.hid (show Calls Tryz.prog 62 #[.agg #[.int .u16 J.ov, .int .u16 J.ox, .int .u16 J.ol, .int .i64 J.oe, .int .i64 J.ok, .int .u16 J.nv, .int .u16 J.nx, .int .u16 J.nl, .int .i64 J.ne, .int .i64 J.nk, .bool J.two]] W fun r w' => r = .returned (.bool b) ∧ Below W.heap.size W w' from by have := jMay J W; rw [hb] at this; exact this)
        have HS2 : Hid (M = (b && (es.drop (k + 1)).all enM)) := by show _ = _; rw [HS.out, enM_conf hk2, hJ, hb]
        have HK2 := Lib.hid hk2
        clear hb hk2 hJ HS
        go_wp2_with fail
        refine HMJ.out.mono ?_; rintro r w2 ⟨rfl, b2⟩
        have HB2 := Lib.hid (HB1.out.trans (b2.mono HB1.out.size))
        clear b2 HMJ kX
        cases b with
        | false =>
          have HN : Hid (false = M) := by show _ = _; rw [HS2.out]; rfl
          go_wp2_with fail
          go_ret
          exact ⟨ret_boolL HN.out, HB2.out⟩
        | true =>
          have HN : Hid (M = (es.drop (k + 1)).all enM) := by show _ = _; rw [HS2.out]; rfl
          go_wp2_with fail
          go_roundw
          case rel => exact ⟨k + 1, by omega, by go_num, HN, HB2⟩
          case measure => simp [intOf]; omega
      · have hd2 : (e.k == 2) = false := by simp [hk2]
        have HN : Hid (M = (es.drop (k + 1)).all enM) := by show _ = _; rw [HS.out, enM_other hk2]; rfl
        clear hk2
        go_wp2_with fail
        go_roundw
        case rel => exact ⟨k + 1, by omega, by go_num, HN, HB1⟩
        case measure => simp [intOf]; omega
    · obtain rfl : k = es.length := by omega
      have hd1 : decide ((es.length : Int) < (es.length : Int)) = false := by simp
      have HN : Hid (true = M) := by show _ = _; rw [HT.out, List.drop_eq_nil_of_le (Nat.le_refl _)]; rfl
      go_wp2_with fail
      go_ret
      exact ⟨ret_boolL HN.out, HB.out⟩
/-- What a method of an act tells: the act behind it. -/
def AcDo (T : TypeId) (B : Nat) (w : World) (R : Nat) (v : Value) (a : Ac) (e : Ending) (w' : World) : Prop :=
  e = .returned (.tuple #[]) ∧ ∃ v' q d l', l'.map MsX.m = a.out ∧ AcW T B w' R ⟨a.c, q, d⟩ v' l' ∧ AcR w w' R v v'
/-- A message that may be handed on: who it is from is a node, its numbers are bounded. -/
structure MgFit (m : Ms) : Prop where
  fr0 : 1 ≤ m.fr
  fr9 : m.fr ≤ 9
  ix0 : 0 ≤ m.ix
  ix1 : m.ix ≤ 1099511627776
  n : m.es.length ≤ 100000
  js : ∀ e ∈ m.es, JoF (joX e.j)
  cf : JoF (joX m.cf)
end Go.Proofs.YtbnndbdnejfehaaGreatDoor
/- Core: methods of an act that takes others' entries: the log with them (the program's takes). -/
namespace Go.Proofs.YtbnndbdnejfehaaGreatDoor
open Go.ChangeShapes Go.WideShapes Go.ChangeAt Go.RowKit

end Go.Proofs.YtbnndbdnejfehaaGreatDoor
/- Core: methods of an act: a newer log that is lent (the program's). -/
namespace Go.Proofs.YtbnndbdnejfehaaGreatDoor
open Go.ChangeShapes Go.WideShapes Go.ChangeAt Go.RowKit

theorem msg_range {X : Nat} {w : World} {m : Ms} {q : Option Addr} {d : Nat} (h : w.heap[X]? = some (.cells #[.int .i64 m.k, .int .i64 m.fr, .int .i64 m.dst, .int .i64 m.tm, .int .i64 m.ix, .int .i64 m.lt, .int .i64 m.cm, .int .i64 m.sf, .bool m.yes, .slice q m.es.length d, .string m.sn, .int .u16 m.cf.ov, .int .u16 m.cf.ox, .int .u16 m.cf.ol, .int .i64 m.cf.oe, .int .i64 m.cf.ok, .int .u16 m.cf.nv, .int .u16 m.cf.nx, .int .u16 m.cf.nl, .int .i64 m.cf.ne, .int .i64 m.cf.nk, .bool m.cf.two] 39 (0, 0))) : w.rangeAt X 0 (msC m q d) :=
  range_of (n := 22) rfl (fun j _ => by
    have h' : w.heap[X]? = some (.cells (msC m q d).toArray 39 (0, 0)) := h
    rw [Nat.zero_add, block_cells h', List.getElem?_toArray])
/-- The log of an act is another one now. -/
theorem AcW.log {T : TypeId} {B R : Nat} {w : World} {c : Co} {p : Option Addr} {k : Nat} {v : Value} {l : List MsX} (h : AcW T B w R ⟨c, p, k⟩ v l) (lg : Lg) (q : Option Addr) (d : Nat) {b0 : Nat} (ho : w.ownsRow b0 47 14 (.slice q lg.es.length d) lg.es.length (entRow lg.es)) (hb : B ≤ b0) (hs : ∀ z ∈ l, ∀ b, z.bk = some b → CoX.bk ⟨{ c with l := lg }, q, d⟩ ≠ some b) :
    AcW T B (w.setCells R 8 [.int .i64 lg.b, .int .i64 lg.bt, .int .u16 lg.j.ov, .int .u16 lg.j.ox, .int .u16 lg.j.ol, .int .i64 lg.j.oe, .int .i64 lg.j.ok, .int .u16 lg.j.nv, .int .u16 lg.j.nx, .int .u16 lg.j.nl, .int .i64 lg.j.ne, .int .i64 lg.j.nk, .bool lg.j.two, .slice q lg.es.length d]) R ⟨{ c with l := lg }, q, d⟩ v l ∧ AcR w (w.setCells R 8 [.int .i64 lg.b, .int .i64 lg.bt, .int .u16 lg.j.ov, .int .u16 lg.j.ox, .int .u16 lg.j.ol, .int .i64 lg.j.oe, .int .i64 lg.j.ok, .int .u16 lg.j.nv, .int .u16 lg.j.nx, .int .u16 lg.j.nl, .int .i64 lg.j.ne, .int .i64 lg.j.nk, .bool lg.j.two, .slice q lg.es.length d]) R v v :=
  h.puts 8 [.int .i64 lg.b, .int .i64 lg.bt, .int .u16 lg.j.ov, .int .u16 lg.j.ox, .int .u16 lg.j.ol, .int .i64 lg.j.oe, .int .i64 lg.j.ok, .int .u16 lg.j.nv, .int .u16 lg.j.nx, .int .u16 lg.j.nl, .int .i64 lg.j.ne, .int .i64 lg.j.nk, .bool lg.j.two, .slice q lg.es.length d] (by show 8 + 14 ≤ 45; decide) ⟨{ c with l := lg }, q, d⟩ rfl (ho.mono hb) hs

end Go.Proofs.YtbnndbdnejfehaaGreatDoor
/- Core: methods of an act: a leader's entries (the program's appends). -/
namespace Go.Proofs.YtbnndbdnejfehaaGreatDoor
open Go.ChangeShapes Go.WideShapes Go.ChangeAt Go.RowKit

theorem AcDo.sent {T : TypeId} {B R : Nat} {w w' : World} {A : Ac} {c : Co} {l : List MsX} {x : Ms} {q q' : Option Addr} {d d' : Nat} {v v' : Value} (hz : A = ⟨c, l.map MsX.m ++ [x]⟩) (hA : AcW T B w' R ⟨c, q, d⟩ v' (l ++ [⟨x, q', d'⟩])) (hr : AcR w w' R v v') : AcDo T B w R v A (.returned (.tuple #[])) w' :=
  ⟨rfl, v', q, d, l ++ [⟨x, q', d'⟩], by rw [hz, List.map_append]; rfl, by rw [hz]; exact hA, hr⟩
end Go.Proofs.YtbnndbdnejfehaaGreatDoor
/- Core: methods of an act: a leader's snapshot (the program's snap). -/
namespace Go.Proofs.YtbnndbdnejfehaaGreatDoor
open Go.ChangeShapes Go.WideShapes Go.ChangeAt Go.RowKit

end Go.Proofs.YtbnndbdnejfehaaGreatDoor
/- Core: methods of an act: what a node has is noted (the program's acked). -/
namespace Go.Proofs.YtbnndbdnejfehaaGreatDoor
open Go.ChangeShapes Go.WideShapes Go.ChangeAt Go.RowKit

/-- A message's cells, and one of the act's. -/
structure AckS (R X n : Nat) (ms : Array Value) (u : Value) (w' : World) : Prop where
  x : ∀ j, w'.cell? ⟨X, j, none⟩ = ms[j]?
  m : w'.cell? ⟨R, n, none⟩ = some u
structure XS (X : Nat) (ms : Array Value) (w' : World) : Prop where
  x : ∀ j, w'.cell? ⟨X, j, none⟩ = ms[j]?
end Go.Proofs.YtbnndbdnejfehaaGreatDoor
/- Core: methods of an act: a vote is asked for (the program's asked). -/
namespace Go.Proofs.YtbnndbdnejfehaaGreatDoor
open Go.ChangeShapes Go.WideShapes Go.ChangeAt Go.RowKit

end Go.Proofs.YtbnndbdnejfehaaGreatDoor
/- Core: whether a message is passed over; numbers that are clamped (the program's deaf, clamp, node). -/
namespace Go.Proofs.YtbnndbdnejfehaaGreatDoor
open Go.ChangeShapes Go.WideShapes Go.ChangeAt Go.RowKit

/-- Is a message passed over? -/
def deafB (c : Co) (m : Ms) : Bool :=
  decide (m.dst ≠ c.id) || (!(decide (1 ≤ m.fr) && decide (m.fr ≤ 9)) || (decide (m.fr = c.id) || (decide (m.tm < 1) || (decide (1099511627776 < m.tm) || (decide (m.k < 1) || (decide (6 < m.k) || (decide (m.k = 1) && (decide (c.role = 2) || (decide (c.ld ≠ 0) && decide (c.wt < 10))))))))))
def stepB (c : Co) (m0 : Ms) : Ac :=
  if deafB c m0 = true then ⟨c, []⟩
  else if (clampM m0).tm < (riseC c (clampM m0)).tm then lateA ⟨riseC c (clampM m0), []⟩ (clampM m0)
  else if m0.k = 1 then askedA ⟨riseC c (clampM m0), []⟩ (clampM m0)
  else if m0.k = 2 then voteA ⟨riseC c (clampM m0), []⟩ (clampM m0)
  else if m0.k = 4 then (if (riseC c (clampM m0)).role = 2 then ackedA ⟨riseC c (clampM m0), []⟩ (clampM m0) else ⟨riseC c (clampM m0), []⟩)
  else if m0.k = 3 then (if (riseC c (clampM m0)).role = 2 then ⟨riseC c (clampM m0), []⟩ else appendsA ⟨riseC c (clampM m0), []⟩ (clampM m0))
  else if m0.k = 5 then (if (riseC c (clampM m0)).role = 2 then ⟨riseC c (clampM m0), []⟩ else snapA ⟨riseC c (clampM m0), []⟩ (clampM m0))
  else (if (riseC c (clampM m0)).role = 2 then ⟨riseC c (clampM m0), []⟩ else lentA ⟨riseC c (clampM m0), []⟩ (clampM m0))
set_option maxRecDepth 100000 in
set_option maxHeartbeats 1000000 in
theorem clamp_any (n : Int) (w : World) : Calls Tryz.prog 37 #[.int .i64 n] w fun e w' => e = .returned (.int .i64 (clampI n)) ∧ w = w' := by
  have HC : Hid (min (max n 0) 1099511627776 = clampI n) := rfl
  go_enter Tryz.func37, Tryz.ntmps37
  go_wp2_with fail
  go_ret
  rw [← HC.out]
  exact ⟨rfl, rfl⟩
set_option maxRecDepth 100000 in
set_option maxHeartbeats 1000000 in
theorem node_any (n : Int) (w : World) : Calls Tryz.prog 59 #[.int .i64 n] w fun e w' => e = .returned (.bool (decide (1 ≤ n) && decide (n ≤ 9))) ∧ w = w' := by
  by_cases h1 : 1 ≤ n
  · have d1 : decide (1 ≤ n) = true := by simp [h1]
    by_cases h2 : n ≤ 9
    · have d2 : decide (n ≤ 9) = true := by simp [h2]
      rw [d1, d2]
      go_enter Tryz.func59, Tryz.ntmps59
      go_wp2_with fail
      go_ret
      exact ⟨rfl, rfl⟩
    · have d2 : decide (n ≤ 9) = false := by simp; omega
      rw [d1, d2]
      go_enter Tryz.func59, Tryz.ntmps59
      go_wp2_with fail
      go_ret
      exact ⟨rfl, rfl⟩
  · have d1 : decide (1 ≤ n) = false := by simp; omega
    rw [d1]
    go_enter Tryz.func59, Tryz.ntmps59
    go_wp2_with fail
    go_ret
    exact ⟨rfl, rfl⟩
set_option maxRecDepth 100000 in
set_option maxHeartbeats 16000000 in
theorem deaf_any (c : Co) (p : Option Addr) (k : Nat) (m : Ms) (q : Option Addr) (d : Nat) (w : World) :
    Calls Tryz.prog 36 #[.agg #[.int .i64 c.id, .int .i64 c.role, .int .i64 c.tm, .int .i64 c.vt, .int .i64 c.ld, .int .i64 c.wt, .int .i64 c.cm, .int .i64 c.sf, .int .i64 c.l.b, .int .i64 c.l.bt, .int .u16 c.l.j.ov, .int .u16 c.l.j.ox, .int .u16 c.l.j.ol, .int .i64 c.l.j.oe, .int .i64 c.l.j.ok, .int .u16 c.l.j.nv, .int .u16 c.l.j.nx, .int .u16 c.l.j.nl, .int .i64 c.l.j.ne, .int .i64 c.l.j.nk, .bool c.l.j.two, .slice p c.l.es.length k, .string c.sn, .int .u16 c.vs, .int .u16 c.hd, .int .i64 (c.nx 0), .int .i64 (c.nx 1), .int .i64 (c.nx 2), .int .i64 (c.nx 3), .int .i64 (c.nx 4), .int .i64 (c.nx 5), .int .i64 (c.nx 6), .int .i64 (c.nx 7), .int .i64 (c.nx 8), .int .i64 (c.nx 9), .int .i64 (c.mt 0), .int .i64 (c.mt 1), .int .i64 (c.mt 2), .int .i64 (c.mt 3), .int .i64 (c.mt 4), .int .i64 (c.mt 5), .int .i64 (c.mt 6), .int .i64 (c.mt 7), .int .i64 (c.mt 8), .int .i64 (c.mt 9)], .agg #[.int .i64 m.k, .int .i64 m.fr, .int .i64 m.dst, .int .i64 m.tm, .int .i64 m.ix, .int .i64 m.lt, .int .i64 m.cm, .int .i64 m.sf, .bool m.yes, .slice q m.es.length d, .string m.sn, .int .u16 m.cf.ov, .int .u16 m.cf.ox, .int .u16 m.cf.ol, .int .i64 m.cf.oe, .int .i64 m.cf.ok, .int .u16 m.cf.nv, .int .u16 m.cf.nx, .int .u16 m.cf.nl, .int .i64 m.cf.ne, .int .i64 m.cf.nk, .bool m.cf.two]] w fun e w' => e = .returned (.bool (deafB c m)) ∧ Below w.heap.size w w' := by
  obtain ⟨D, hD⟩ : ∃ D, deafB c m = D := ⟨_, rfl⟩
  have HD := Lib.hid hD
  rw [hD]
  obtain ⟨W0, hW0⟩ : ∃ z : World, w.alloc (.cells #[.int .i64 c.id, .int .i64 c.role, .int .i64 c.tm, .int .i64 c.vt, .int .i64 c.ld, .int .i64 c.wt, .int .i64 c.cm, .int .i64 c.sf, .int .i64 c.l.b, .int .i64 c.l.bt, .int .u16 c.l.j.ov, .int .u16 c.l.j.ox, .int .u16 c.l.j.ol, .int .i64 c.l.j.oe, .int .i64 c.l.j.ok, .int .u16 c.l.j.nv, .int .u16 c.l.j.nx, .int .u16 c.l.j.nl, .int .i64 c.l.j.ne, .int .i64 c.l.j.nk, .bool c.l.j.two, .slice p c.l.es.length k, .string c.sn, .int .u16 c.vs, .int .u16 c.hd, .int .i64 (c.nx 0), .int .i64 (c.nx 1), .int .i64 (c.nx 2), .int .i64 (c.nx 3), .int .i64 (c.nx 4), .int .i64 (c.nx 5), .int .i64 (c.nx 6), .int .i64 (c.nx 7), .int .i64 (c.nx 8), .int .i64 (c.nx 9), .int .i64 (c.mt 0), .int .i64 (c.mt 1), .int .i64 (c.mt 2), .int .i64 (c.mt 3), .int .i64 (c.mt 4), .int .i64 (c.mt 5), .int .i64 (c.mt 6), .int .i64 (c.mt 7), .int .i64 (c.mt 8), .int .i64 (c.mt 9)] 33) = z := ⟨_, rfl⟩
  obtain ⟨W, hW⟩ : ∃ z : World, W0.alloc (.cells #[.int .i64 m.k, .int .i64 m.fr, .int .i64 m.dst, .int .i64 m.tm, .int .i64 m.ix, .int .i64 m.lt, .int .i64 m.cm, .int .i64 m.sf, .bool m.yes, .slice q m.es.length d, .string m.sn, .int .u16 m.cf.ov, .int .u16 m.cf.ox, .int .u16 m.cf.ol, .int .i64 m.cf.oe, .int .i64 m.cf.ok, .int .u16 m.cf.nv, .int .u16 m.cf.nx, .int .u16 m.cf.nl, .int .i64 m.cf.ne, .int .i64 m.cf.nk, .bool m.cf.two] 39) = z := ⟨_, rfl⟩
  have hs0 : W0.heap.size = w.heap.size + 1 := by rw [← hW0]; simp
  have b0 : Below w.heap.size w W0 := by rw [← hW0]; exact (Below.refl _ _).alloc (Nat.le_refl _) _
  have b1 : Below W0.heap.size W0 W := by rw [← hW]; exact (Below.refl _ _).alloc (Nat.le_refl _) _
  have bW := b0.trans (b1.mono b0.size)
  have hX : W.heap[w.heap.size]? = some (.cells #[.int .i64 c.id, .int .i64 c.role, .int .i64 c.tm, .int .i64 c.vt, .int .i64 c.ld, .int .i64 c.wt, .int .i64 c.cm, .int .i64 c.sf, .int .i64 c.l.b, .int .i64 c.l.bt, .int .u16 c.l.j.ov, .int .u16 c.l.j.ox, .int .u16 c.l.j.ol, .int .i64 c.l.j.oe, .int .i64 c.l.j.ok, .int .u16 c.l.j.nv, .int .u16 c.l.j.nx, .int .u16 c.l.j.nl, .int .i64 c.l.j.ne, .int .i64 c.l.j.nk, .bool c.l.j.two, .slice p c.l.es.length k, .string c.sn, .int .u16 c.vs, .int .u16 c.hd, .int .i64 (c.nx 0), .int .i64 (c.nx 1), .int .i64 (c.nx 2), .int .i64 (c.nx 3), .int .i64 (c.nx 4), .int .i64 (c.nx 5), .int .i64 (c.nx 6), .int .i64 (c.nx 7), .int .i64 (c.nx 8), .int .i64 (c.nx 9), .int .i64 (c.mt 0), .int .i64 (c.mt 1), .int .i64 (c.mt 2), .int .i64 (c.mt 3), .int .i64 (c.mt 4), .int .i64 (c.mt 5), .int .i64 (c.mt 6), .int .i64 (c.mt 7), .int .i64 (c.mt 8), .int .i64 (c.mt 9)] 33 (0, 0)) := below_block b1 (by omega) (by rw [← hW0]; exact heap_last w _)
  have hY : W.heap[w.heap.size + 1]? = some (.cells #[.int .i64 m.k, .int .i64 m.fr, .int .i64 m.dst, .int .i64 m.tm, .int .i64 m.ix, .int .i64 m.lt, .int .i64 m.cm, .int .i64 m.sf, .bool m.yes, .slice q m.es.length d, .string m.sn, .int .u16 m.cf.ov, .int .u16 m.cf.ox, .int .u16 m.cf.ol, .int .i64 m.cf.oe, .int .i64 m.cf.ok, .int .u16 m.cf.nv, .int .u16 m.cf.nx, .int .u16 m.cf.nl, .int .i64 m.cf.ne, .int .i64 m.cf.nk, .bool m.cf.two] 39 (0, 0)) := by rw [← hW, ← hs0]; exact heap_last W0 _
  obtain ⟨X, eX⟩ : ∃ z, w.heap.size = z := ⟨_, rfl⟩
  obtain ⟨Y, eY⟩ : ∃ z, X + 1 = z := ⟨_, rfl⟩
  rw [eX] at hX hY
  rw [eY] at hY
  have HWG := Lib.hid (show (w.alloc (.cells #[.int .i64 c.id, .int .i64 c.role, .int .i64 c.tm, .int .i64 c.vt, .int .i64 c.ld, .int .i64 c.wt, .int .i64 c.cm, .int .i64 c.sf, .int .i64 c.l.b, .int .i64 c.l.bt, .int .u16 c.l.j.ov, .int .u16 c.l.j.ox, .int .u16 c.l.j.ol, .int .i64 c.l.j.oe, .int .i64 c.l.j.ok, .int .u16 c.l.j.nv, .int .u16 c.l.j.nx, .int .u16 c.l.j.nl, .int .i64 c.l.j.ne, .int .i64 c.l.j.nk, .bool c.l.j.two, .slice p c.l.es.length k, .string c.sn, .int .u16 c.vs, .int .u16 c.hd, .int .i64 (c.nx 0), .int .i64 (c.nx 1), .int .i64 (c.nx 2), .int .i64 (c.nx 3), .int .i64 (c.nx 4), .int .i64 (c.nx 5), .int .i64 (c.nx 6), .int .i64 (c.nx 7), .int .i64 (c.nx 8), .int .i64 (c.nx 9), .int .i64 (c.mt 0), .int .i64 (c.mt 1), .int .i64 (c.mt 2), .int .i64 (c.mt 3), .int .i64 (c.mt 4), .int .i64 (c.mt 5), .int .i64 (c.mt 6), .int .i64 (c.mt 7), .int .i64 (c.mt 8), .int .i64 (c.mt 9)] 33)).alloc (.cells #[.int .i64 m.k, .int .i64 m.fr, .int .i64 m.dst, .int .i64 m.tm, .int .i64 m.ix, .int .i64 m.lt, .int .i64 m.cm, .int .i64 m.sf, .bool m.yes, .slice q m.es.length d, .string m.sn, .int .u16 m.cf.ov, .int .u16 m.cf.ox, .int .u16 m.cf.ol, .int .i64 m.cf.oe, .int .i64 m.cf.ok, .int .u16 m.cf.nv, .int .u16 m.cf.nx, .int .u16 m.cf.nl, .int .i64 m.cf.ne, .int .i64 m.cf.nk, .bool m.cf.two] 39) = W by rw [hW0]; exact hW)
  have HBW := Lib.hid bW; have HEX := Lib.hid eX; have HEY := Lib.hid eY
  have c0 : W.cell? ⟨X, 0, none⟩ = some (.int .i64 c.id) := block_cells hX 0
  have c1 : W.cell? ⟨X, 1, none⟩ = some (.int .i64 c.role) := block_cells hX 1
  have c4 : W.cell? ⟨X, 4, none⟩ = some (.int .i64 c.ld) := block_cells hX 4
  have c5 : W.cell? ⟨X, 5, none⟩ = some (.int .i64 c.wt) := block_cells hX 5
  have m0 : W.cell? ⟨Y, 0, none⟩ = some (.int .i64 m.k) := block_cells hY 0
  have m1 : W.cell? ⟨Y, 1, none⟩ = some (.int .i64 m.fr) := block_cells hY 1
  have m2 : W.cell? ⟨Y, 2, none⟩ = some (.int .i64 m.dst) := block_cells hY 2
  have m3 : W.cell? ⟨Y, 3, none⟩ = some (.int .i64 m.tm) := block_cells hY 3
  obtain ⟨nd, hnd⟩ : ∃ nd, (decide (1 ≤ m.fr) && decide (m.fr ≤ 9)) = nd := ⟨_, rfl⟩
  have HND := Lib.hid (show Calls Tryz.prog 59 #[.int .i64 m.fr] W fun e w' => e = .returned (.bool nd) ∧ W = w' from by have := node_any m.fr W; rw [hnd] at this; exact this)
  have HDD : Hid (D = (decide (m.dst ≠ c.id) || (!nd || (decide (m.fr = c.id) || (decide (m.tm < 1) || (decide (1099511627776 < m.tm) || (decide (m.k < 1) || (decide (6 < m.k) || (decide (m.k = 1) && (decide (c.role = 2) || (decide (c.ld ≠ 0) && decide (c.wt < 10))))))))))))  := by show _ = _; rw [← HD.out]; unfold deafB; rw [hnd]
  clear hW0 hW hs0 b0 b1 bW hX hY eX eY hnd hD
  go_enter Tryz.func36, Tryz.ntmps36
  go_upto_region 1 with fail
  rw [HWG.out, HEX.out]
  (try rw [HEY.out])
  clear HWG
  by_cases ha : m.dst ≠ c.id
  · have qa : (m.dst != c.id) = true := by simp [ha]
    have HZ : Hid (D = true) := by show _ = _; rw [HDD.out, decide_eq_true ha]; simp
    clear ha
    go_wp2_with fail
    go_ret
    rw [HZ.out]
    exact ⟨rfl, HBW.out⟩
  have qa : (m.dst != c.id) = false := by simpa using ha
  have na := Lib.hid (decide_eq_false ha)
  clear ha
  cases nd with
  | false =>
    have HZ : Hid (D = true) := by show _ = _; rw [HDD.out]; simp
    go_wp2_with fail
    refine HND.out.mono ?_; rintro r w2 ⟨rfl, rfl⟩
    go_wp2_with fail
    go_ret
    rw [HZ.out]
    exact ⟨rfl, HBW.out⟩
  | true =>
  by_cases hb : m.fr = c.id
  · have qb : (m.fr == c.id) = true := by simp [hb]
    have HZ : Hid (D = true) := by show _ = _; rw [HDD.out, decide_eq_true hb]; simp
    clear hb
    go_wp2_with fail
    refine HND.out.mono ?_; rintro r w2 ⟨rfl, rfl⟩
    go_wp2_with fail
    go_ret
    rw [HZ.out]
    exact ⟨rfl, HBW.out⟩
  have qb : (m.fr == c.id) = false := by simp [hb]
  have nb := Lib.hid (decide_eq_false hb)
  clear hb
  by_cases ht : m.tm < 1
  · have qt : decide (m.tm < 1) = true := by simp [ht]
    have HZ : Hid (D = true) := by show _ = _; rw [HDD.out, decide_eq_true ht]; simp
    clear ht
    go_wp2_with fail
    refine HND.out.mono ?_; rintro r w2 ⟨rfl, rfl⟩
    go_wp2_with fail
    go_ret
    rw [HZ.out]
    exact ⟨rfl, HBW.out⟩
  have qt : decide (m.tm < 1) = false := by simp; omega
  have nt := Lib.hid (decide_eq_false ht)
  clear ht
  by_cases hu : 1099511627776 < m.tm
  · have qu : decide (1099511627776 < m.tm) = true := by simp [hu]
    have HZ : Hid (D = true) := by show _ = _; rw [HDD.out, decide_eq_true hu]; simp
    clear hu
    go_wp2_with fail
    refine HND.out.mono ?_; rintro r w2 ⟨rfl, rfl⟩
    go_wp2_with fail
    go_ret
    rw [HZ.out]
    exact ⟨rfl, HBW.out⟩
  have qu : decide (1099511627776 < m.tm) = false := by simp; omega
  have nu := Lib.hid (decide_eq_false hu)
  clear hu
  by_cases hk : m.k < 1
  · have qk : decide (m.k < 1) = true := by simp [hk]
    have HZ : Hid (D = true) := by show _ = _; rw [HDD.out, decide_eq_true hk]; simp
    clear hk
    go_wp2_with fail
    refine HND.out.mono ?_; rintro r w2 ⟨rfl, rfl⟩
    go_wp2_with fail
    go_ret
    rw [HZ.out]
    exact ⟨rfl, HBW.out⟩
  have qk : decide (m.k < 1) = false := by simp; omega
  have nk := Lib.hid (decide_eq_false hk)
  clear hk
  by_cases hl : 6 < m.k
  · have ql : decide (6 < m.k) = true := by simp [hl]
    have HZ : Hid (D = true) := by show _ = _; rw [HDD.out, decide_eq_true hl]; simp
    clear hl
    go_wp2_with fail
    refine HND.out.mono ?_; rintro r w2 ⟨rfl, rfl⟩
    go_wp2_with fail
    go_ret
    rw [HZ.out]
    exact ⟨rfl, HBW.out⟩
  have ql : decide (6 < m.k) = false := by simp; omega
  have nl := Lib.hid (decide_eq_false hl)
  clear hl
  by_cases hz : m.k = 1
  · have qz : (m.k == 1) = true := by simp [hz]
    have nz := Lib.hid (decide_eq_true hz)
    clear hz
    by_cases hr : c.role = 2
    · have qr : (c.role == 2) = true := by simp [hr]
      have HZ : Hid (D = true) := by show _ = _; rw [HDD.out, nz.out, decide_eq_true hr]; simp
      clear hr
      go_wp2_with fail
      refine HND.out.mono ?_; rintro r w2 ⟨rfl, rfl⟩
      go_wp2_with fail
      go_ret
      rw [HZ.out]
      exact ⟨rfl, HBW.out⟩
    have qr : (c.role == 2) = false := by simp [hr]
    have nr := Lib.hid (decide_eq_false hr)
    clear hr
    by_cases hl2 : c.ld = 0
    · have ql2 : (c.ld != 0) = false := by simp [hl2]
      have HZ : Hid (D = false) := by show _ = _; rw [HDD.out, na.out, nb.out, nt.out, nu.out, nk.out, nl.out, nz.out, nr.out, decide_eq_false (fun h : c.ld ≠ 0 => h hl2)]; simp
      clear hl2
      go_wp2_with fail
      refine HND.out.mono ?_; rintro r w2 ⟨rfl, rfl⟩
      go_wp2_with fail
      go_ret
      rw [HZ.out]
      exact ⟨rfl, HBW.out⟩
    have ql2 : (c.ld != 0) = true := by simp [hl2]
    have nl2 := Lib.hid (decide_eq_true hl2)
    clear hl2
    by_cases hw : c.wt < 10
    · have qw : decide (c.wt < 10) = true := by simp [hw]
      have HZ : Hid (D = true) := by show _ = _; rw [HDD.out, nz.out, nl2.out, decide_eq_true hw]; simp
      clear hw
      go_wp2_with fail
      refine HND.out.mono ?_; rintro r w2 ⟨rfl, rfl⟩
      go_wp2_with fail
      go_ret
      rw [HZ.out]
      exact ⟨rfl, HBW.out⟩
    have qw : decide (c.wt < 10) = false := by simp; omega
    have HZ : Hid (D = false) := by show _ = _; rw [HDD.out, na.out, nb.out, nt.out, nu.out, nk.out, nl.out, nz.out, nr.out, decide_eq_false hw]; simp
    clear hw
    go_wp2_with fail
    refine HND.out.mono ?_; rintro r w2 ⟨rfl, rfl⟩
    go_wp2_with fail
    go_ret
    rw [HZ.out]
    exact ⟨rfl, HBW.out⟩
  have qz : (m.k == 1) = false := by simp [hz]
  have HZ : Hid (D = false) := by show _ = _; rw [HDD.out, na.out, nb.out, nt.out, nu.out, nk.out, nl.out, decide_eq_false hz]; simp
  clear hz
  go_wp2_with fail
  refine HND.out.mono ?_; rintro r w2 ⟨rfl, rfl⟩
  go_wp2_with fail
  go_ret
  rw [HZ.out]
  exact ⟨rfl, HBW.out⟩
end Go.Proofs.YtbnndbdnejfehaaGreatDoor
/- Core: a core behind a message (the program's Step). -/
namespace Go.Proofs.YtbnndbdnejfehaaGreatDoor
open Go.ChangeShapes Go.WideShapes Go.ChangeAt Go.RowKit

theorem CoFit.rise {N : Nat} {c : Co} (h : CoFit N c) (m : Ms) : CoFit N (riseC c m) := by
  unfold riseC
  split
  · exact ⟨h.lo, h.n, h.id0, h.id1, h.nx, h.mt, h.cm0, h.cm1⟩
  · exact h
theorem clampI_fit (n : Int) : 0 ≤ clampI n ∧ clampI n ≤ 1099511627776 := by unfold clampI; omega
theorem step_deaf {c : Co} {m : Ms} (h : deafB c m = true) : stepB c m = ⟨c, []⟩ := if_pos h
/-- A message that is not passed over is from a node. -/
theorem deaf_not {c : Co} {m : Ms} (h : deafB c m = false) : 1 ≤ m.fr ∧ m.fr ≤ 9 := by
  unfold deafB at h
  simp only [Bool.or_eq_false_iff, Bool.not_eq_false', Bool.and_eq_true, decide_eq_true_eq] at h
  exact h.2.1
theorem vote_win {a : Ac} {m : Ms} (h1 : a.c.role = 1) (h2 : m.yes = true) (h3 : electsN (confL a.c.l) (withS a.c.vs m.fr) = true) : voteA a m = ⟨winC { a.c with vs := withS a.c.vs m.fr }, a.out ++ allM (winC { a.c with vs := withS a.c.vs m.fr })⟩ := by
  unfold voteA; rw [if_pos ⟨h1, h2⟩, if_pos h3]; exact wins_eq _ _
theorem vote_wait {a : Ac} {m : Ms} (h1 : a.c.role = 1) (h2 : m.yes = true) (h3 : electsN (confL a.c.l) (withS a.c.vs m.fr) = false) : voteA a m = ⟨{ a.c with vs := withS a.c.vs m.fr }, a.out⟩ := by
  unfold voteA; rw [if_pos ⟨h1, h2⟩, if_neg (by rw [h3]; exact Bool.false_ne_true)]
theorem vote_off {a : Ac} {m : Ms} (h : ¬(a.c.role = 1 ∧ m.yes = true)) : voteA a m = a := by
  unfold voteA; rw [if_neg h]
end Go.Proofs.YtbnndbdnejfehaaGreatDoor
