/- Hard: the reference's Diff. -/
import Derived.Test.YtjaabakobpabjaaHardB
namespace Go.Proofs.Ytjaabakobpabjaa
open Go.ChangeShapes Go.WideShapes Go.ChangeAt Go.RowKit

theorem Try.infoStr : (Try.prog.info? 9).map (fun i => (i.zero, i.size, i.bytes)) = some (some (.string ⟨#[]⟩), 1, 16) := by kernel_rfl
def stR (L : List (List Int)) : List Value := L.map fun l => .string (strOfNums l)
/-- A list of strings, in a row of the call's own. -/
def StEnd (w : World) (L : List (List Int)) (e : Ending) (w' : World) : Prop := ∃ v, e = .returned v ∧ w'.ownsRow w.heap.size 9 1 v L.length (stR L) ∧ Below w.heap.size w w'
theorem cutDE {R P : Nat → Nat → World → Prop} {Q : Prop} (h : (∀ d e w, R d e w → P d e w) → Q) (p : ∀ d e w, R d e w → P d e w) : Q := h p
structure DrW (w0 w : World) (A C : Nat) (ca cc : Array Value) (v : Value) (M : List (List Int)) : Prop where
  b : Below w0.heap.size w0 w
  a : w.heap[A]? = some (.cells ca 48 (0, 0))
  c : w.heap[C]? = some (.cells cc 48 (0, 0))
  l : w.ownsRow w0.heap.size 9 1 v M.length (stR M)
theorem DrW.keep {w0 w w' : World} {A C : Nat} {ca cc : Array Value} {v : Value} {M : List (List Int)} (h : DrW w0 w A C ca cc v M) (hb : Below w.heap.size w w') : DrW w0 w' A C ca cc v M :=
  ⟨h.b.trans (hb.mono h.b.size), below_block hb (block_lt h.a) h.a, below_block hb (block_lt h.c) h.c, own_keptH h.l hb⟩
theorem DrW.app {w0 w w' : World} {A C : Nat} {ca cc : Array Value} {v v' : Value} {M : List (List Int)} {l : List Int} (h : DrW w0 w A C ca cc v M) (h2 : w'.ownsRow w0.heap.size 9 1 v' (M.length + 1) (stR M ++ [.string (strOfNums l)])) (h3 : w.grownBy w' v.ownBlock) : DrW w0 w' A C ca cc v' (M ++ [l]) :=
  ⟨h.b.grown h3 h.b.size (fun k hk => (h.l.lt k hk).1), blk_keep h.a h.l (by decide) h3, blk_keep h.c h.l (by decide) h3, by rw [List.length_append, stR, List.map_append]; exact h2⟩
set_option maxRecDepth 100000 in
set_option maxHeartbeats 16000000 in
theorem rhdiff_any (r : Int) (o n : Co) (po pn : Option Addr) (co cn : Nat) (w : World) (FO : LgFit o.l) (FN : LgFit n.l) (hr : In64 r) (N : CoF n) (eo : EnSl w (.slice po o.l.es.length co) o.l.es) (en : EnSl w (.slice pn n.l.es.length cn) n.l.es) :
    Calls Try.prog 19 #[.int .i64 r, .agg #[.int .i64 o.id, .int .i64 o.role, .int .i64 o.tm, .int .i64 o.vt, .int .i64 o.ld, .int .i64 o.wt, .int .i64 o.cm, .int .i64 o.sf, .int .i64 o.l.b, .int .i64 o.l.bt, .int .u16 o.l.j.ov, .int .u16 o.l.j.ox, .int .u16 o.l.j.ol, .int .i64 o.l.j.oe, .int .i64 o.l.j.ok, .int .u16 o.l.j.nv, .int .u16 o.l.j.nx, .int .u16 o.l.j.nl, .int .i64 o.l.j.ne, .int .i64 o.l.j.nk, .bool o.l.j.two, .slice po o.l.es.length co, .string o.sn, .int .u16 o.vs, .int .u16 o.hd, .int .i64 (o.nx 0), .int .i64 (o.nx 1), .int .i64 (o.nx 2), .int .i64 (o.nx 3), .int .i64 (o.nx 4), .int .i64 (o.nx 5), .int .i64 (o.nx 6), .int .i64 (o.nx 7), .int .i64 (o.nx 8), .int .i64 (o.nx 9), .int .i64 (o.mt 0), .int .i64 (o.mt 1), .int .i64 (o.mt 2), .int .i64 (o.mt 3), .int .i64 (o.mt 4), .int .i64 (o.mt 5), .int .i64 (o.mt 6), .int .i64 (o.mt 7), .int .i64 (o.mt 8), .int .i64 (o.mt 9)], .agg #[.int .i64 n.id, .int .i64 n.role, .int .i64 n.tm, .int .i64 n.vt, .int .i64 n.ld, .int .i64 n.wt, .int .i64 n.cm, .int .i64 n.sf, .int .i64 n.l.b, .int .i64 n.l.bt, .int .u16 n.l.j.ov, .int .u16 n.l.j.ox, .int .u16 n.l.j.ol, .int .i64 n.l.j.oe, .int .i64 n.l.j.ok, .int .u16 n.l.j.nv, .int .u16 n.l.j.nx, .int .u16 n.l.j.nl, .int .i64 n.l.j.ne, .int .i64 n.l.j.nk, .bool n.l.j.two, .slice pn n.l.es.length cn, .string n.sn, .int .u16 n.vs, .int .u16 n.hd, .int .i64 (n.nx 0), .int .i64 (n.nx 1), .int .i64 (n.nx 2), .int .i64 (n.nx 3), .int .i64 (n.nx 4), .int .i64 (n.nx 5), .int .i64 (n.nx 6), .int .i64 (n.nx 7), .int .i64 (n.nx 8), .int .i64 (n.nx 9), .int .i64 (n.mt 0), .int .i64 (n.mt 1), .int .i64 (n.mt 2), .int .i64 (n.mt 3), .int .i64 (n.mt 4), .int .i64 (n.mt 5), .int .i64 (n.mt 6), .int .i64 (n.mt 7), .int .i64 (n.mt 8), .int .i64 (n.mt 9)]] w (StEnd w (diffB r o n)) := by
  have HFO : Hid (LgFit o.l) := FO; have HFN : Hid (LgFit n.l) := FN; have HRI := Lib.hid hr; have HN := Lib.hid N; have HEO := Lib.hid eo; have HEN := Lib.hid en
  obtain ⟨i0, hi0, hz0, hz1, hz2⟩ := info_parts Try.infoStr
  clear FO FN hr N eo en
  go_enter Try.func19, Try.ntmps19
  obtain ⟨Q', hQ⟩ : ∃ Q', bodyPost Try.prog Try.f19 (StEnd w (diffB r o n)) = Q' := ⟨_, rfl⟩
  have HQ : Hid (∀ (a : Act) (w' : World) (v : Value), a.tmps.getD 6 undef = v → a.defers = [] → w'.ownsRow w.heap.size 9 1 v (diffB r o n).length (stR (diffB r o n)) → Below w.heap.size w w' → Q' .ret a w') := fun a w' v h6 hd hl hb => by
    rw [← hQ]; exact bodyPost_ret (v := v) (by rw [results_tmp rfl, h6]) hd ⟨v, rfl, hl, hb⟩
  rw [hQ]
  clear hQ
  go_upto_region 2 with fail
  obtain ⟨Wa, hWa⟩ : ∃ x : World, w.alloc (.cells #[.int .i64 o.id, .int .i64 o.role, .int .i64 o.tm, .int .i64 o.vt, .int .i64 o.ld, .int .i64 o.wt, .int .i64 o.cm, .int .i64 o.sf, .int .i64 o.l.b, .int .i64 o.l.bt, .int .u16 o.l.j.ov, .int .u16 o.l.j.ox, .int .u16 o.l.j.ol, .int .i64 o.l.j.oe, .int .i64 o.l.j.ok, .int .u16 o.l.j.nv, .int .u16 o.l.j.nx, .int .u16 o.l.j.nl, .int .i64 o.l.j.ne, .int .i64 o.l.j.nk, .bool o.l.j.two, .slice po o.l.es.length co, .string o.sn, .int .u16 o.vs, .int .u16 o.hd, .int .i64 (o.nx 0), .int .i64 (o.nx 1), .int .i64 (o.nx 2), .int .i64 (o.nx 3), .int .i64 (o.nx 4), .int .i64 (o.nx 5), .int .i64 (o.nx 6), .int .i64 (o.nx 7), .int .i64 (o.nx 8), .int .i64 (o.nx 9), .int .i64 (o.mt 0), .int .i64 (o.mt 1), .int .i64 (o.mt 2), .int .i64 (o.mt 3), .int .i64 (o.mt 4), .int .i64 (o.mt 5), .int .i64 (o.mt 6), .int .i64 (o.mt 7), .int .i64 (o.mt 8), .int .i64 (o.mt 9)] 48) = x := ⟨_, rfl⟩
  obtain ⟨W, hW⟩ : ∃ x : World, Wa.alloc (.cells #[.int .i64 n.id, .int .i64 n.role, .int .i64 n.tm, .int .i64 n.vt, .int .i64 n.ld, .int .i64 n.wt, .int .i64 n.cm, .int .i64 n.sf, .int .i64 n.l.b, .int .i64 n.l.bt, .int .u16 n.l.j.ov, .int .u16 n.l.j.ox, .int .u16 n.l.j.ol, .int .i64 n.l.j.oe, .int .i64 n.l.j.ok, .int .u16 n.l.j.nv, .int .u16 n.l.j.nx, .int .u16 n.l.j.nl, .int .i64 n.l.j.ne, .int .i64 n.l.j.nk, .bool n.l.j.two, .slice pn n.l.es.length cn, .string n.sn, .int .u16 n.vs, .int .u16 n.hd, .int .i64 (n.nx 0), .int .i64 (n.nx 1), .int .i64 (n.nx 2), .int .i64 (n.nx 3), .int .i64 (n.nx 4), .int .i64 (n.nx 5), .int .i64 (n.nx 6), .int .i64 (n.nx 7), .int .i64 (n.nx 8), .int .i64 (n.nx 9), .int .i64 (n.mt 0), .int .i64 (n.mt 1), .int .i64 (n.mt 2), .int .i64 (n.mt 3), .int .i64 (n.mt 4), .int .i64 (n.mt 5), .int .i64 (n.mt 6), .int .i64 (n.mt 7), .int .i64 (n.mt 8), .int .i64 (n.mt 9)] 48) = x := ⟨_, rfl⟩
  have sa : Wa.heap.size = w.heap.size + 1 := by rw [← hWa]; simp
  have ba : Below w.heap.size w Wa := by rw [← hWa]; exact (Below.refl _ _).alloc (Nat.le_refl _) _
  have bb : Below Wa.heap.size Wa W := by rw [← hW]; exact (Below.refl _ _).alloc (Nat.le_refl _) _
  have hA0 : Wa.heap[w.heap.size]? = some (.cells #[.int .i64 o.id, .int .i64 o.role, .int .i64 o.tm, .int .i64 o.vt, .int .i64 o.ld, .int .i64 o.wt, .int .i64 o.cm, .int .i64 o.sf, .int .i64 o.l.b, .int .i64 o.l.bt, .int .u16 o.l.j.ov, .int .u16 o.l.j.ox, .int .u16 o.l.j.ol, .int .i64 o.l.j.oe, .int .i64 o.l.j.ok, .int .u16 o.l.j.nv, .int .u16 o.l.j.nx, .int .u16 o.l.j.nl, .int .i64 o.l.j.ne, .int .i64 o.l.j.nk, .bool o.l.j.two, .slice po o.l.es.length co, .string o.sn, .int .u16 o.vs, .int .u16 o.hd, .int .i64 (o.nx 0), .int .i64 (o.nx 1), .int .i64 (o.nx 2), .int .i64 (o.nx 3), .int .i64 (o.nx 4), .int .i64 (o.nx 5), .int .i64 (o.nx 6), .int .i64 (o.nx 7), .int .i64 (o.nx 8), .int .i64 (o.nx 9), .int .i64 (o.mt 0), .int .i64 (o.mt 1), .int .i64 (o.mt 2), .int .i64 (o.mt 3), .int .i64 (o.mt 4), .int .i64 (o.mt 5), .int .i64 (o.mt 6), .int .i64 (o.mt 7), .int .i64 (o.mt 8), .int .i64 (o.mt 9)] 48 (0, 0)) := by rw [← hWa]; exact heap_last _ _
  have hC0 : W.heap[Wa.heap.size]? = some (.cells #[.int .i64 n.id, .int .i64 n.role, .int .i64 n.tm, .int .i64 n.vt, .int .i64 n.ld, .int .i64 n.wt, .int .i64 n.cm, .int .i64 n.sf, .int .i64 n.l.b, .int .i64 n.l.bt, .int .u16 n.l.j.ov, .int .u16 n.l.j.ox, .int .u16 n.l.j.ol, .int .i64 n.l.j.oe, .int .i64 n.l.j.ok, .int .u16 n.l.j.nv, .int .u16 n.l.j.nx, .int .u16 n.l.j.nl, .int .i64 n.l.j.ne, .int .i64 n.l.j.nk, .bool n.l.j.two, .slice pn n.l.es.length cn, .string n.sn, .int .u16 n.vs, .int .u16 n.hd, .int .i64 (n.nx 0), .int .i64 (n.nx 1), .int .i64 (n.nx 2), .int .i64 (n.nx 3), .int .i64 (n.nx 4), .int .i64 (n.nx 5), .int .i64 (n.nx 6), .int .i64 (n.nx 7), .int .i64 (n.nx 8), .int .i64 (n.nx 9), .int .i64 (n.mt 0), .int .i64 (n.mt 1), .int .i64 (n.mt 2), .int .i64 (n.mt 3), .int .i64 (n.mt 4), .int .i64 (n.mt 5), .int .i64 (n.mt 6), .int .i64 (n.mt 7), .int .i64 (n.mt 8), .int .i64 (n.mt 9)] 48 (0, 0)) := by rw [← hW]; exact heap_last _ _
  have hA1 := below_block bb (block_lt hA0) hA0
  have hb2 := ba.trans (bb.mono (by omega))
  rw [hWa, hW]
  (try rw [sa])
  rw [sa] at hC0
  obtain ⟨A, eA⟩ : ∃ x, w.heap.size = x := ⟨_, rfl⟩
  have HEA := Lib.hid eA
  (try rw [eA])
  rw [eA] at hA1 hC0
  obtain ⟨C, eC⟩ : ∃ x, A + 1 = x := ⟨_, rfl⟩
  (try rw [eC])
  rw [eC] at hC0
  have HW : Hid (DrW w W A C #[.int .i64 o.id, .int .i64 o.role, .int .i64 o.tm, .int .i64 o.vt, .int .i64 o.ld, .int .i64 o.wt, .int .i64 o.cm, .int .i64 o.sf, .int .i64 o.l.b, .int .i64 o.l.bt, .int .u16 o.l.j.ov, .int .u16 o.l.j.ox, .int .u16 o.l.j.ol, .int .i64 o.l.j.oe, .int .i64 o.l.j.ok, .int .u16 o.l.j.nv, .int .u16 o.l.j.nx, .int .u16 o.l.j.nl, .int .i64 o.l.j.ne, .int .i64 o.l.j.nk, .bool o.l.j.two, .slice po o.l.es.length co, .string o.sn, .int .u16 o.vs, .int .u16 o.hd, .int .i64 (o.nx 0), .int .i64 (o.nx 1), .int .i64 (o.nx 2), .int .i64 (o.nx 3), .int .i64 (o.nx 4), .int .i64 (o.nx 5), .int .i64 (o.nx 6), .int .i64 (o.nx 7), .int .i64 (o.nx 8), .int .i64 (o.nx 9), .int .i64 (o.mt 0), .int .i64 (o.mt 1), .int .i64 (o.mt 2), .int .i64 (o.mt 3), .int .i64 (o.mt 4), .int .i64 (o.mt 5), .int .i64 (o.mt 6), .int .i64 (o.mt 7), .int .i64 (o.mt 8), .int .i64 (o.mt 9)] #[.int .i64 n.id, .int .i64 n.role, .int .i64 n.tm, .int .i64 n.vt, .int .i64 n.ld, .int .i64 n.wt, .int .i64 n.cm, .int .i64 n.sf, .int .i64 n.l.b, .int .i64 n.l.bt, .int .u16 n.l.j.ov, .int .u16 n.l.j.ox, .int .u16 n.l.j.ol, .int .i64 n.l.j.oe, .int .i64 n.l.j.ok, .int .u16 n.l.j.nv, .int .u16 n.l.j.nx, .int .u16 n.l.j.nl, .int .i64 n.l.j.ne, .int .i64 n.l.j.nk, .bool n.l.j.two, .slice pn n.l.es.length cn, .string n.sn, .int .u16 n.vs, .int .u16 n.hd, .int .i64 (n.nx 0), .int .i64 (n.nx 1), .int .i64 (n.nx 2), .int .i64 (n.nx 3), .int .i64 (n.nx 4), .int .i64 (n.nx 5), .int .i64 (n.nx 6), .int .i64 (n.nx 7), .int .i64 (n.nx 8), .int .i64 (n.nx 9), .int .i64 (n.mt 0), .int .i64 (n.mt 1), .int .i64 (n.mt 2), .int .i64 (n.mt 3), .int .i64 (n.mt 4), .int .i64 (n.mt 5), .int .i64 (n.mt 6), .int .i64 (n.mt 7), .int .i64 (n.mt 8), .int .i64 (n.mt 9)] (.slice none 0 0) []) := ⟨hb2, hA1, hC0, ⟨rfl, .inl ⟨rfl, rfl⟩⟩⟩
  have hAC : A < C := by omega
  have hAw : w.heap.size ≤ A := by rw [HEA.out]; exact Nat.le_refl _
  clear hWa hW sa ba bb hA0 hA1 hC0 hb2 eA eC
  have kA := block_cells HW.out.a
  have kC := block_cells HW.out.c
  go_cut [33] from 22 to 33 (fun c wx => c = .bool (hardB o n) ∧ wx = W)
  case first =>
    by_cases h1 : n.tm = o.tm
    · by_cases h2 : n.vt = o.vt
      · have hb : hardB o n = false := by unfold hardB; simp [h1, h2]
        have q1 : (o.tm != n.tm) = false := by simp [h1]
        have q2 : (o.vt != n.vt) = false := by simp [h2]
        have HB := Lib.hid hb
        clear h1 h2 hb
        go_wp2_with fail
        go_meet
        case rel => exact ⟨by rw [HB.out], rfl⟩
      · have hb : hardB o n = true := by unfold hardB; simp [h2]
        have q1 : (o.tm != n.tm) = false := by simp [h1]
        have q2 : (o.vt != n.vt) = true := by simp; exact fun h => h2 h.symm
        have HB := Lib.hid hb
        clear h1 h2 hb
        go_wp2_with fail
        go_meet
        case rel => exact ⟨by rw [HB.out], rfl⟩
    · have hb : hardB o n = true := by unfold hardB; simp [h1]
      have q1 : (o.tm != n.tm) = true := by simp; exact fun h => h1 h.symm
      have HB := Lib.hid hb
      clear h1 hb
      go_wp2_with fail
      go_meet
      case rel => exact ⟨by rw [HB.out], rfl⟩
  obtain ⟨rfl, hw⟩ := hcut
  rw [hw]
  clear hw wc
  go_upto_if 33 with fail
  go_cut [7] from 33 to 44 (fun v wx => Hid (∃ M, M = (if hardB o n = true then [recB 72 [r, n.tm, n.vt]] else []) ∧ DrW w wx A C #[.int .i64 o.id, .int .i64 o.role, .int .i64 o.tm, .int .i64 o.vt, .int .i64 o.ld, .int .i64 o.wt, .int .i64 o.cm, .int .i64 o.sf, .int .i64 o.l.b, .int .i64 o.l.bt, .int .u16 o.l.j.ov, .int .u16 o.l.j.ox, .int .u16 o.l.j.ol, .int .i64 o.l.j.oe, .int .i64 o.l.j.ok, .int .u16 o.l.j.nv, .int .u16 o.l.j.nx, .int .u16 o.l.j.nl, .int .i64 o.l.j.ne, .int .i64 o.l.j.nk, .bool o.l.j.two, .slice po o.l.es.length co, .string o.sn, .int .u16 o.vs, .int .u16 o.hd, .int .i64 (o.nx 0), .int .i64 (o.nx 1), .int .i64 (o.nx 2), .int .i64 (o.nx 3), .int .i64 (o.nx 4), .int .i64 (o.nx 5), .int .i64 (o.nx 6), .int .i64 (o.nx 7), .int .i64 (o.nx 8), .int .i64 (o.nx 9), .int .i64 (o.mt 0), .int .i64 (o.mt 1), .int .i64 (o.mt 2), .int .i64 (o.mt 3), .int .i64 (o.mt 4), .int .i64 (o.mt 5), .int .i64 (o.mt 6), .int .i64 (o.mt 7), .int .i64 (o.mt 8), .int .i64 (o.mt 9)] #[.int .i64 n.id, .int .i64 n.role, .int .i64 n.tm, .int .i64 n.vt, .int .i64 n.ld, .int .i64 n.wt, .int .i64 n.cm, .int .i64 n.sf, .int .i64 n.l.b, .int .i64 n.l.bt, .int .u16 n.l.j.ov, .int .u16 n.l.j.ox, .int .u16 n.l.j.ol, .int .i64 n.l.j.oe, .int .i64 n.l.j.ok, .int .u16 n.l.j.nv, .int .u16 n.l.j.nx, .int .u16 n.l.j.nl, .int .i64 n.l.j.ne, .int .i64 n.l.j.nk, .bool n.l.j.two, .slice pn n.l.es.length cn, .string n.sn, .int .u16 n.vs, .int .u16 n.hd, .int .i64 (n.nx 0), .int .i64 (n.nx 1), .int .i64 (n.nx 2), .int .i64 (n.nx 3), .int .i64 (n.nx 4), .int .i64 (n.nx 5), .int .i64 (n.nx 6), .int .i64 (n.nx 7), .int .i64 (n.nx 8), .int .i64 (n.nx 9), .int .i64 (n.mt 0), .int .i64 (n.mt 1), .int .i64 (n.mt 2), .int .i64 (n.mt 3), .int .i64 (n.mt 4), .int .i64 (n.mt 5), .int .i64 (n.mt 6), .int .i64 (n.mt 7), .int .i64 (n.mt 8), .int .i64 (n.mt 9)] v M))
  case first =>
    cases hb : hardB o n with
    | false =>
      have HB := Lib.hid hb
      clear hb
      go_wp2_with fail
      go_meet
      case rel => exact ⟨[], by rw [HB.out]; rfl, HW.out⟩
    | true =>
      have HB := Lib.hid hb
      clear hb
      have bl : Below W.heap.size W (W.alloc (.cells #[.int .i64 r, .int .i64 n.tm, .int .i64 n.vt] 3)) := (Below.refl _ _).alloc (Nat.le_refl _) _
      have HC := Lib.hid (rrec_any 72 (some ⟨W.heap.size, 0, none⟩) 3 [r, n.tm, n.vt] (W.alloc (.cells #[.int .i64 r, .int .i64 n.tm, .int .i64 n.vt] 3)) (nums_ofH (t := 3) (heap_last W _)) (fun y hy => by
        simp only [List.mem_cons, List.not_mem_nil, or_false] at hy
        rcases hy with rfl | rfl | rfl
        · exact HRI.out
        · exact HN.out.tm
        · exact HN.out.vt) (by simp))
      have HW1 := Lib.hid (HW.out.keep bl)
      clear bl
      go_wp2_with fail
      refine HC.out.mono ?_; rintro e w1 ⟨v1, rfl, ho1, hb1⟩
      have hcv := run_convert_sl (P := Try.prog) (Sl.of_own ho1) 32 5 Try.underlying32 Try.underlying5 9 Try.underlying9
      have hb0 := hb1
      have hbx : Below w1.heap.size w1 (w1.alloc (.cells #[.string (strOfNums (recB 72 [r, n.tm, n.vt]))] 9)) := (Below.refl _ _).alloc (Nat.le_refl _) _
      have HWx := Lib.hid ((HW1.out.keep hb1).keep hbx)
      have HQx : Hid ((w1.alloc (.cells #[.string (strOfNums (recB 72 [r, n.tm, n.vt]))] 9)).heap[w1.heap.size]? = some (.cells #[.string (strOfNums (recB 72 [r, n.tm, n.vt]))] 9 (0, 0))) := heap_last w1 _
      clear hb1 hbx
      go_wp2_with (at_builtin; go_loud (refine wpList_append_sl_at rfl _ _ 31 rfl w.heap.size 9 i0 (.string ⟨#[]⟩) 1 16 Try.underlying31 hi0 hz0 hz1 hz2 rfl (by decide) (.slice none 0 0) ([] : List (List Int)).length (stR ([] : List (List Int))) rfl HWx.out.l _ _ 1 [.string (strOfNums (recB 72 [r, n.tm, n.vt]))] rfl (sl_oneB HQx.out) (by intro u hu; rw [List.mem_singleton] at hu; rw [hu]; rfl) ?d1 ?d2 ?d3 ?_))
      case d1 => (try simp only [List.length_nil]); unfold maxLen; omega
      case d2 => (try simp only [List.length_nil]); omega
      case d3 => exact HWx.out.b.size
      intro vy wy h2 h3 h4
      have HW2 := Lib.hid (HWx.out.app h2 h3)
      clear h2 h3 h4 HWx HQx hcv
      go_wp2_with fail
      go_meet
      case rel => exact ⟨_, by rw [HB.out]; rfl, HW2.out⟩
  obtain ⟨v1, hv1⟩ : ∃ x, x = u7 := ⟨_, rfl⟩
  rw [← hv1] at hcut ⊢
  clear hv1
  obtain ⟨W1, rfl⟩ : ∃ x : World, x = wc := ⟨_, rfl⟩
  obtain ⟨M1, hM1, hW1⟩ := hcut.out
  have HM1 := Lib.hid hM1; have HW1 := Lib.hid hW1
  have hCW : C < W1.heap.size := block_lt hW1.c
  clear hM1 hW1 hcut kA kC HW
  have kA := block_cells HW1.out.a
  have kC := block_cells HW1.out.c
  go_upto_region 4 with fail
  go_cut [8, 9] from 45 to 48 (fun x y wx => ∃ D E, x = .pointer (some ⟨D, 0, none⟩) ∧ y = .pointer (some ⟨E, 0, none⟩) ∧ Hid (DrW w wx A C #[.int .i64 o.id, .int .i64 o.role, .int .i64 o.tm, .int .i64 o.vt, .int .i64 o.ld, .int .i64 o.wt, .int .i64 o.cm, .int .i64 o.sf, .int .i64 o.l.b, .int .i64 o.l.bt, .int .u16 o.l.j.ov, .int .u16 o.l.j.ox, .int .u16 o.l.j.ol, .int .i64 o.l.j.oe, .int .i64 o.l.j.ok, .int .u16 o.l.j.nv, .int .u16 o.l.j.nx, .int .u16 o.l.j.nl, .int .i64 o.l.j.ne, .int .i64 o.l.j.nk, .bool o.l.j.two, .slice po o.l.es.length co, .string o.sn, .int .u16 o.vs, .int .u16 o.hd, .int .i64 (o.nx 0), .int .i64 (o.nx 1), .int .i64 (o.nx 2), .int .i64 (o.nx 3), .int .i64 (o.nx 4), .int .i64 (o.nx 5), .int .i64 (o.nx 6), .int .i64 (o.nx 7), .int .i64 (o.nx 8), .int .i64 (o.nx 9), .int .i64 (o.mt 0), .int .i64 (o.mt 1), .int .i64 (o.mt 2), .int .i64 (o.mt 3), .int .i64 (o.mt 4), .int .i64 (o.mt 5), .int .i64 (o.mt 6), .int .i64 (o.mt 7), .int .i64 (o.mt 8), .int .i64 (o.mt 9)] #[.int .i64 n.id, .int .i64 n.role, .int .i64 n.tm, .int .i64 n.vt, .int .i64 n.ld, .int .i64 n.wt, .int .i64 n.cm, .int .i64 n.sf, .int .i64 n.l.b, .int .i64 n.l.bt, .int .u16 n.l.j.ov, .int .u16 n.l.j.ox, .int .u16 n.l.j.ol, .int .i64 n.l.j.oe, .int .i64 n.l.j.ok, .int .u16 n.l.j.nv, .int .u16 n.l.j.nx, .int .u16 n.l.j.nl, .int .i64 n.l.j.ne, .int .i64 n.l.j.nk, .bool n.l.j.two, .slice pn n.l.es.length cn, .string n.sn, .int .u16 n.vs, .int .u16 n.hd, .int .i64 (n.nx 0), .int .i64 (n.nx 1), .int .i64 (n.nx 2), .int .i64 (n.nx 3), .int .i64 (n.nx 4), .int .i64 (n.nx 5), .int .i64 (n.nx 6), .int .i64 (n.nx 7), .int .i64 (n.nx 8), .int .i64 (n.nx 9), .int .i64 (n.mt 0), .int .i64 (n.mt 1), .int .i64 (n.mt 2), .int .i64 (n.mt 3), .int .i64 (n.mt 4), .int .i64 (n.mt 5), .int .i64 (n.mt 6), .int .i64 (n.mt 7), .int .i64 (n.mt 8), .int .i64 (n.mt 9)] v1 M1 ∧ C < D ∧ C < E ∧ wx.heap[D]? = some (.cells #[.int .i64 o.l.b, .int .i64 o.l.bt, .int .u16 o.l.j.ov, .int .u16 o.l.j.ox, .int .u16 o.l.j.ol, .int .i64 o.l.j.oe, .int .i64 o.l.j.ok, .int .u16 o.l.j.nv, .int .u16 o.l.j.nx, .int .u16 o.l.j.nl, .int .i64 o.l.j.ne, .int .i64 o.l.j.nk, .bool o.l.j.two, .slice po o.l.es.length co] 45 (0, 0)) ∧ wx.heap[E]? = some (.cells #[.int .i64 n.l.b, .int .i64 n.l.bt, .int .u16 n.l.j.ov, .int .u16 n.l.j.ox, .int .u16 n.l.j.ol, .int .i64 n.l.j.oe, .int .i64 n.l.j.ok, .int .u16 n.l.j.nv, .int .u16 n.l.j.nx, .int .u16 n.l.j.nl, .int .i64 n.l.j.ne, .int .i64 n.l.j.nk, .bool n.l.j.two, .slice pn n.l.es.length cn] 45 (0, 0))))
  case first =>
    clear kA kC
    have h0 : Below W1.heap.size W1 W1.drew := (Below.refl _ _).drew
    have kA : ∀ w', Below W1.heap.size W1 w' → ∀ j, w'.cell? ⟨A, j, none⟩ = #[.int .i64 o.id, .int .i64 o.role, .int .i64 o.tm, .int .i64 o.vt, .int .i64 o.ld, .int .i64 o.wt, .int .i64 o.cm, .int .i64 o.sf, .int .i64 o.l.b, .int .i64 o.l.bt, .int .u16 o.l.j.ov, .int .u16 o.l.j.ox, .int .u16 o.l.j.ol, .int .i64 o.l.j.oe, .int .i64 o.l.j.ok, .int .u16 o.l.j.nv, .int .u16 o.l.j.nx, .int .u16 o.l.j.nl, .int .i64 o.l.j.ne, .int .i64 o.l.j.nk, .bool o.l.j.two, .slice po o.l.es.length co, .string o.sn, .int .u16 o.vs, .int .u16 o.hd, .int .i64 (o.nx 0), .int .i64 (o.nx 1), .int .i64 (o.nx 2), .int .i64 (o.nx 3), .int .i64 (o.nx 4), .int .i64 (o.nx 5), .int .i64 (o.nx 6), .int .i64 (o.nx 7), .int .i64 (o.nx 8), .int .i64 (o.nx 9), .int .i64 (o.mt 0), .int .i64 (o.mt 1), .int .i64 (o.mt 2), .int .i64 (o.mt 3), .int .i64 (o.mt 4), .int .i64 (o.mt 5), .int .i64 (o.mt 6), .int .i64 (o.mt 7), .int .i64 (o.mt 8), .int .i64 (o.mt 9)][j]? := fun w' h => block_cells (HW1.out.keep h).a
    have kC : ∀ w', Below W1.heap.size W1 w' → ∀ j, w'.cell? ⟨C, j, none⟩ = #[.int .i64 n.id, .int .i64 n.role, .int .i64 n.tm, .int .i64 n.vt, .int .i64 n.ld, .int .i64 n.wt, .int .i64 n.cm, .int .i64 n.sf, .int .i64 n.l.b, .int .i64 n.l.bt, .int .u16 n.l.j.ov, .int .u16 n.l.j.ox, .int .u16 n.l.j.ol, .int .i64 n.l.j.oe, .int .i64 n.l.j.ok, .int .u16 n.l.j.nv, .int .u16 n.l.j.nx, .int .u16 n.l.j.nl, .int .i64 n.l.j.ne, .int .i64 n.l.j.nk, .bool n.l.j.two, .slice pn n.l.es.length cn, .string n.sn, .int .u16 n.vs, .int .u16 n.hd, .int .i64 (n.nx 0), .int .i64 (n.nx 1), .int .i64 (n.nx 2), .int .i64 (n.nx 3), .int .i64 (n.nx 4), .int .i64 (n.nx 5), .int .i64 (n.nx 6), .int .i64 (n.nx 7), .int .i64 (n.nx 8), .int .i64 (n.nx 9), .int .i64 (n.mt 0), .int .i64 (n.mt 1), .int .i64 (n.mt 2), .int .i64 (n.mt 3), .int .i64 (n.mt 4), .int .i64 (n.mt 5), .int .i64 (n.mt 6), .int .i64 (n.mt 7), .int .i64 (n.mt 8), .int .i64 (n.mt 9)][j]? := fun w' h => block_cells (HW1.out.keep h).c
    refine wp_region_noPanic ?_
    refine wp_region_held_drew (S := fun w' => Below W1.heap.size W1 w') (by kernel_rfl) h0 (fun hHeld => ?_)
    obtain ⟨wd, ewd⟩ : ∃ x, W1.drew = x := ⟨_, rfl⟩
    rw [ewd] at h0 hHeld ⊢
    clear ewd
    refine wpAnyH_take (i := 0) (v := ?_) rfl (by kernel_rfl) (by kernel_rfl) (by kernel_rfl) (fun _ _ _ h => h) (Or.inl ⟨by rfl, ?_⟩) hHeld ?_
    rotate_left
    · (intro wz hSw; (try dsimp only at hSw); (try simp only [List.getElem_toArray, List.getElem_cons_zero]); go_simp; try with_reducible rfl)
    try simp only [List.getElem_toArray, List.getElem_cons_zero, Act.put, List.setIfInBounds_toArray, List.set_cons_zero, List.set_cons_succ]
    refine wpAnyH_take (i := 1) (v := ?_) rfl (by kernel_rfl) (by kernel_rfl) (by kernel_rfl) (fun _ _ _ h => h) (Or.inl ⟨by rfl, ?_⟩) hHeld ?_
    rotate_left
    · (intro wz hSw; (try dsimp only at hSw); (try simp only [List.getElem_toArray, List.getElem_cons_succ, List.getElem_cons_zero]); go_simp; try with_reducible rfl)
    try simp only [List.getElem_toArray, List.getElem_cons_succ, List.getElem_cons_zero, Act.put, List.setIfInBounds_toArray, List.set_cons_zero, List.set_cons_succ]
    refine wpAnyH_take (i := 2) (v := ?_) rfl (by kernel_rfl) (by kernel_rfl) (by kernel_rfl) (fun _ _ _ h => h) (Or.inl ⟨by rfl, ?_⟩) hHeld ?_
    rotate_left
    · (intro wz hSw; (try dsimp only at hSw); (try simp only [List.getElem_toArray, List.getElem_cons_succ, List.getElem_cons_zero]); go_simp; try with_reducible rfl)
    try simp only [List.getElem_toArray, List.getElem_cons_succ, List.getElem_cons_zero, Act.put, List.setIfInBounds_toArray, List.set_cons_zero, List.set_cons_succ]
    refine wpAnyH_take (i := 3) (v := ?_) rfl (by kernel_rfl) (by kernel_rfl) (by kernel_rfl) (fun _ _ _ h => h) (Or.inl ⟨by rfl, ?_⟩) hHeld ?_
    rotate_left
    · (intro wz hSw; (try dsimp only at hSw); (try simp only [List.getElem_toArray, List.getElem_cons_succ, List.getElem_cons_zero]); go_simp; try with_reducible rfl)
    try simp only [List.getElem_toArray, List.getElem_cons_succ, List.getElem_cons_zero, Act.put, List.setIfInBounds_toArray, List.set_cons_zero, List.set_cons_succ]
    clear hHeld kA kC
    apply cutDE (R := fun D E w' => Below W1.heap.size W1 w' ∧ D ≠ E ∧ W1.heap.size ≤ D ∧ W1.heap.size ≤ E ∧ w'.heap[D]? = some (.cells #[.int .i64 0, .int .i64 0, .int .u16 0, .int .u16 0, .int .u16 0, .int .i64 0, .int .i64 0, .int .u16 0, .int .u16 0, .int .u16 0, .int .i64 0, .int .i64 0, .bool false, .slice none 0 0] 45 (0, 0)) ∧ w'.heap[E]? = some (.cells #[.int .i64 0, .int .i64 0, .int .u16 0, .int .u16 0, .int .u16 0, .int .i64 0, .int .i64 0, .int .u16 0, .int .u16 0, .int .u16 0, .int .i64 0, .int .i64 0, .bool false, .slice none 0 0] 45 (0, 0)))
    · intro hcut
      have hHeld := h0
      refine wpAnyH_ready (rs := [4, 5]) (by kernel_rfl) (by simp) ?_
      refine AllReadyH.cons rfl (fun K hK => ?_) (AllReadyH.cons rfl (fun K hK => ?_) AllReadyH.nil)
      · skip
        try simp only [List.getElem_toArray, List.getElem_cons_succ, List.getElem_cons_zero]
        go_simp
        obtain ⟨wa, ew⟩ : ∃ x : World, wd.alloc (.cells #[.int .i64 0, .int .i64 0, .int .u16 0, .int .u16 0, .int .u16 0, .int .i64 0, .int .i64 0, .int .u16 0, .int .u16 0, .int .u16 0, .int .i64 0, .int .i64 0, .bool false, .slice none 0 0] 45) = x := ⟨_, rfl⟩
        have blwa : Below wd.heap.size wd wa := by rw [← ew]; exact (Below.refl _ _).alloc (Nat.le_refl _) _
        have qwa : wa.heap[wd.heap.size]? = some (.cells #[.int .i64 0, .int .i64 0, .int .u16 0, .int .u16 0, .int .u16 0, .int .i64 0, .int .i64 0, .int .u16 0, .int .u16 0, .int .u16 0, .int .i64 0, .int .i64 0, .bool false, .slice none 0 0] 45 (0, 0)) := by rw [← ew]; exact heap_last wd _
        have swa : wd.heap.size < wa.heap.size := by rw [← ew]; simp
        rw [ew]
        obtain ⟨D, eD⟩ : ∃ n, wd.heap.size = n := ⟨_, rfl⟩
        try rw [eD]
        rw [eD] at qwa swa
        have ba := h0.trans (blwa.mono h0.size)
        refine hK.out _ _ ba (fun _ => ?_)
        clear hK K hHeld ew
        try simp only [List.getElem_toArray, List.getElem_cons_succ, List.getElem_cons_zero, Act.put, List.setIfInBounds_toArray, List.set_cons_zero, List.set_cons_succ]
        have hHeld := ba
        refine wpAnyH_ready (rs := [5]) (by kernel_rfl) (by simp) ?_
        refine AllReadyH.cons rfl (fun K hK => ?_) AllReadyH.nil
        try simp only [List.getElem_toArray, List.getElem_cons_succ, List.getElem_cons_zero]
        go_simp
        obtain ⟨wb, ew⟩ : ∃ x : World, wa.alloc (.cells #[.int .i64 0, .int .i64 0, .int .u16 0, .int .u16 0, .int .u16 0, .int .i64 0, .int .i64 0, .int .u16 0, .int .u16 0, .int .u16 0, .int .i64 0, .int .i64 0, .bool false, .slice none 0 0] 45) = x := ⟨_, rfl⟩
        have blwb : Below wa.heap.size wa wb := by rw [← ew]; exact (Below.refl _ _).alloc (Nat.le_refl _) _
        have qwb : wb.heap[wa.heap.size]? = some (.cells #[.int .i64 0, .int .i64 0, .int .u16 0, .int .u16 0, .int .u16 0, .int .i64 0, .int .i64 0, .int .u16 0, .int .u16 0, .int .u16 0, .int .i64 0, .int .i64 0, .bool false, .slice none 0 0] 45 (0, 0)) := by rw [← ew]; exact heap_last wa _
        have swb : wa.heap.size < wb.heap.size := by rw [← ew]; simp
        rw [ew]
        obtain ⟨E, eE⟩ : ∃ n, wa.heap.size = n := ⟨_, rfl⟩
        try rw [eE]
        rw [eE] at qwb swb
        have bb := ba.trans (blwb.mono ba.size)
        have q1 := below_block blwb (block_lt qwa) qwa
        have z0 := h0.size
        refine hK.out _ _ bb (fun _ => ?_)
        clear hK K hHeld ew
        try simp only [List.getElem_toArray, List.getElem_cons_succ, List.getElem_cons_zero, Act.put, List.setIfInBounds_toArray, List.set_cons_zero, List.set_cons_succ]
        exact hcut D E wb ⟨bb, by omega, by omega, by omega, q1, qwb⟩
      · skip
        try simp only [List.getElem_toArray, List.getElem_cons_succ, List.getElem_cons_zero]
        go_simp
        obtain ⟨wa, ew⟩ : ∃ x : World, wd.alloc (.cells #[.int .i64 0, .int .i64 0, .int .u16 0, .int .u16 0, .int .u16 0, .int .i64 0, .int .i64 0, .int .u16 0, .int .u16 0, .int .u16 0, .int .i64 0, .int .i64 0, .bool false, .slice none 0 0] 45) = x := ⟨_, rfl⟩
        have blwa : Below wd.heap.size wd wa := by rw [← ew]; exact (Below.refl _ _).alloc (Nat.le_refl _) _
        have qwa : wa.heap[wd.heap.size]? = some (.cells #[.int .i64 0, .int .i64 0, .int .u16 0, .int .u16 0, .int .u16 0, .int .i64 0, .int .i64 0, .int .u16 0, .int .u16 0, .int .u16 0, .int .i64 0, .int .i64 0, .bool false, .slice none 0 0] 45 (0, 0)) := by rw [← ew]; exact heap_last wd _
        have swa : wd.heap.size < wa.heap.size := by rw [← ew]; simp
        rw [ew]
        obtain ⟨E, eE⟩ : ∃ n, wd.heap.size = n := ⟨_, rfl⟩
        try rw [eE]
        rw [eE] at qwa swa
        have ba := h0.trans (blwa.mono h0.size)
        refine hK.out _ _ ba (fun _ => ?_)
        clear hK K hHeld ew
        try simp only [List.getElem_toArray, List.getElem_cons_succ, List.getElem_cons_zero, Act.put, List.setIfInBounds_toArray, List.set_cons_zero, List.set_cons_succ]
        have hHeld := ba
        refine wpAnyH_ready (rs := [4]) (by kernel_rfl) (by simp) ?_
        refine AllReadyH.cons rfl (fun K hK => ?_) AllReadyH.nil
        try simp only [List.getElem_toArray, List.getElem_cons_succ, List.getElem_cons_zero]
        go_simp
        obtain ⟨wb, ew⟩ : ∃ x : World, wa.alloc (.cells #[.int .i64 0, .int .i64 0, .int .u16 0, .int .u16 0, .int .u16 0, .int .i64 0, .int .i64 0, .int .u16 0, .int .u16 0, .int .u16 0, .int .i64 0, .int .i64 0, .bool false, .slice none 0 0] 45) = x := ⟨_, rfl⟩
        have blwb : Below wa.heap.size wa wb := by rw [← ew]; exact (Below.refl _ _).alloc (Nat.le_refl _) _
        have qwb : wb.heap[wa.heap.size]? = some (.cells #[.int .i64 0, .int .i64 0, .int .u16 0, .int .u16 0, .int .u16 0, .int .i64 0, .int .i64 0, .int .u16 0, .int .u16 0, .int .u16 0, .int .i64 0, .int .i64 0, .bool false, .slice none 0 0] 45 (0, 0)) := by rw [← ew]; exact heap_last wa _
        have swb : wa.heap.size < wb.heap.size := by rw [← ew]; simp
        rw [ew]
        obtain ⟨D, eD⟩ : ∃ n, wa.heap.size = n := ⟨_, rfl⟩
        try rw [eD]
        rw [eD] at qwb swb
        have bb := ba.trans (blwb.mono ba.size)
        have q1 := below_block blwb (block_lt qwa) qwa
        have z0 := h0.size
        refine hK.out _ _ bb (fun _ => ?_)
        clear hK K hHeld ew
        try simp only [List.getElem_toArray, List.getElem_cons_succ, List.getElem_cons_zero, Act.put, List.setIfInBounds_toArray, List.set_cons_zero, List.set_cons_succ]
        exact hcut D E wb ⟨bb, by omega, by omega, by omega, qwb, q1⟩
    intro D E w2 hx
    obtain ⟨hb, hDE, hD1, hE1, hD, hE⟩ := hx
    have hHeld := hb
    have HW2 := Lib.hid (HW1.out.keep hb)
    have hD9 := putL_at hD [.int .i64 o.l.b, .int .i64 o.l.bt, .int .u16 o.l.j.ov, .int .u16 o.l.j.ox, .int .u16 o.l.j.ol, .int .i64 o.l.j.oe, .int .i64 o.l.j.ok, .int .u16 o.l.j.nv, .int .u16 o.l.j.nx, .int .u16 o.l.j.nl, .int .i64 o.l.j.ne, .int .i64 o.l.j.nk, .bool o.l.j.two, .slice po o.l.es.length co] rfl
    have hgD := putL_gr' D [.int .i64 o.l.b, .int .i64 o.l.bt, .int .u16 o.l.j.ov, .int .u16 o.l.j.ox, .int .u16 o.l.j.ol, .int .i64 o.l.j.oe, .int .i64 o.l.j.ok, .int .u16 o.l.j.nv, .int .u16 o.l.j.nx, .int .u16 o.l.j.nl, .int .i64 o.l.j.ne, .int .i64 o.l.j.nk, .bool o.l.j.two, .slice po o.l.es.length co] 0 w2
    have hE9 := rd_staysH hgD hE (by omega)
    obtain ⟨w3, ew3⟩ : ∃ x : World, putL D 0 [.int .i64 o.l.b, .int .i64 o.l.bt, .int .u16 o.l.j.ov, .int .u16 o.l.j.ox, .int .u16 o.l.j.ol, .int .i64 o.l.j.oe, .int .i64 o.l.j.ok, .int .u16 o.l.j.nv, .int .u16 o.l.j.nx, .int .u16 o.l.j.nl, .int .i64 o.l.j.ne, .int .i64 o.l.j.nk, .bool o.l.j.two, .slice po o.l.es.length co] w2 = x := ⟨_, rfl⟩
    rw [ew3] at hgD hE9
    have hD3 : w3.heap[D]? = some (.cells #[.int .i64 o.l.b, .int .i64 o.l.bt, .int .u16 o.l.j.ov, .int .u16 o.l.j.ox, .int .u16 o.l.j.ol, .int .i64 o.l.j.oe, .int .i64 o.l.j.ok, .int .u16 o.l.j.nv, .int .u16 o.l.j.nx, .int .u16 o.l.j.nl, .int .i64 o.l.j.ne, .int .i64 o.l.j.nk, .bool o.l.j.two, .slice po o.l.es.length co] 45 (0, 0)) := by rw [← ew3]; exact hD9
    have b3 : Below W1.heap.size W1 w3 := hb.grown hgD hb.size (fun k hk => by cases hk; exact hD1)
    have hE3' := putL_at hE9 [.int .i64 n.l.b, .int .i64 n.l.bt, .int .u16 n.l.j.ov, .int .u16 n.l.j.ox, .int .u16 n.l.j.ol, .int .i64 n.l.j.oe, .int .i64 n.l.j.ok, .int .u16 n.l.j.nv, .int .u16 n.l.j.nx, .int .u16 n.l.j.nl, .int .i64 n.l.j.ne, .int .i64 n.l.j.nk, .bool n.l.j.two, .slice pn n.l.es.length cn] rfl
    have hgE := putL_gr' E [.int .i64 n.l.b, .int .i64 n.l.bt, .int .u16 n.l.j.ov, .int .u16 n.l.j.ox, .int .u16 n.l.j.ol, .int .i64 n.l.j.oe, .int .i64 n.l.j.ok, .int .u16 n.l.j.nv, .int .u16 n.l.j.nx, .int .u16 n.l.j.nl, .int .i64 n.l.j.ne, .int .i64 n.l.j.nk, .bool n.l.j.two, .slice pn n.l.es.length cn] 0 w3
    obtain ⟨w4, ew4⟩ : ∃ x : World, putL E 0 [.int .i64 n.l.b, .int .i64 n.l.bt, .int .u16 n.l.j.ov, .int .u16 n.l.j.ox, .int .u16 n.l.j.ol, .int .i64 n.l.j.oe, .int .i64 n.l.j.ok, .int .u16 n.l.j.nv, .int .u16 n.l.j.nx, .int .u16 n.l.j.nl, .int .i64 n.l.j.ne, .int .i64 n.l.j.nk, .bool n.l.j.two, .slice pn n.l.es.length cn] w3 = x := ⟨_, rfl⟩
    rw [ew4] at hgE
    have hE4 : w4.heap[E]? = some (.cells #[.int .i64 n.l.b, .int .i64 n.l.bt, .int .u16 n.l.j.ov, .int .u16 n.l.j.ox, .int .u16 n.l.j.ol, .int .i64 n.l.j.oe, .int .i64 n.l.j.ok, .int .u16 n.l.j.nv, .int .u16 n.l.j.nx, .int .u16 n.l.j.nl, .int .i64 n.l.j.ne, .int .i64 n.l.j.nk, .bool n.l.j.two, .slice pn n.l.es.length cn] 45 (0, 0)) := by rw [← ew4]; exact hE3'
    have hD4 := rd_staysH hgE hD3 (by omega)
    have b4 : Below W1.heap.size W1 w4 := b3.grown hgE b3.size (fun k hk => by cases hk; exact hE1)
    simp only [putL, Nat.reduceAdd, Nat.zero_add] at ew3 ew4
    have HE3 := Lib.hid ew3; have HE4 := Lib.hid ew4; have HB3 := Lib.hid b3; have HB4 := Lib.hid b4; have HD4 := Lib.hid hD4; have HEE := Lib.hid hE4; have HE9 := Lib.hid hE9
    have kD := block_cells hD
    have fD := block_free hD
    clear hD9 hgD hE9 hD3 hE3' hgE ew3 ew4 b3 b4 hD4 hE4 hE hD
    refine wpAnyH_ready (rs := [6]) (by kernel_rfl) (by simp) ?_; refine AllReadyH.cons rfl (fun K hK => ?_) AllReadyH.nil; (try simp only [List.getElem_toArray, List.getElem_cons_succ, List.getElem_cons_zero]); go_simp
    rw [HE3.out]
    refine hK.out _ _ HB3.out (fun _ => ?_)
    clear hK K hHeld kD fD
    try simp only [List.getElem_toArray, List.getElem_cons_succ, List.getElem_cons_zero, Act.put, List.setIfInBounds_toArray, List.set_cons_zero, List.set_cons_succ]
    have hHeld := HB3.out
    have kE := block_cells HE9.out
    have fE := block_free HE9.out
    refine wpAnyH_ready (rs := [7]) (by kernel_rfl) (by simp) ?_; refine AllReadyH.cons rfl (fun K hK => ?_) AllReadyH.nil; (try simp only [List.getElem_toArray, List.getElem_cons_succ, List.getElem_cons_zero]); go_simp
    rw [HE4.out]
    refine hK.out _ _ HB4.out (fun _ => ?_)
    clear hK K hHeld kE fE
    try simp only [List.getElem_toArray, List.getElem_cons_succ, List.getElem_cons_zero, Act.put, List.setIfInBounds_toArray, List.set_cons_zero, List.set_cons_succ]
    refine wpAnyH_done (by kernel_rfl) ?_ _
    refine NoPanic.normal ?_
    go_wp2_with fail
    go_meet
    case rel => exact ⟨D, E, rfl, rfl, HW1.out.keep HB4.out, by omega, by omega, HD4.out, HEE.out⟩
  obtain ⟨D, E, rfl, rfl, hst⟩ := hcut
  obtain ⟨W2, rfl⟩ : ∃ x : World, x = wc := ⟨_, rfl⟩
  obtain ⟨hW2, hCD, hCE, hD, hE⟩ := hst.out
  have HW2 := Lib.hid hW2; have HD := Lib.hid hD; have HE := Lib.hid hE
  clear hst hW2 hD hE kA kC HW1
  have kA := block_cells HW2.out.a
  have kC := block_cells HW2.out.c
  have kD := block_cells HD.out
  have kE := block_cells HE.out
  go_upto_region 6 with fail
  go_cut [74] from 49 to 74 (fun c wx => c = .bool (snapB o n) ∧ wx = W2)
  case first =>
    by_cases h1 : n.l.b = o.l.b
    · have q1 : (o.l.b != n.l.b) = false := by simp [h1]
      by_cases h2 : n.l.bt = o.l.bt
      · have q2 : (o.l.bt != n.l.bt) = false := by simp [h2]
        by_cases h3 : n.l.j = o.l.j
        · have q3 : ∀ w, (binOp .neq 42 (.agg #[.int .u16 o.l.j.ov, .int .u16 o.l.j.ox, .int .u16 o.l.j.ol, .int .i64 o.l.j.oe, .int .i64 o.l.j.ok, .int .u16 o.l.j.nv, .int .u16 o.l.j.nx, .int .u16 o.l.j.nl, .int .i64 o.l.j.ne, .int .i64 o.l.j.nk, .bool o.l.j.two]) (.agg #[.int .u16 n.l.j.ov, .int .u16 n.l.j.ox, .int .u16 n.l.j.ol, .int .i64 n.l.j.oe, .int .i64 n.l.j.ok, .int .u16 n.l.j.nv, .int .u16 n.l.j.nx, .int .u16 n.l.j.nl, .int .i64 n.l.j.ne, .int .i64 n.l.j.nk, .bool n.l.j.two])).run Try.prog w = .ok (.bool false) w := fun w => by rw [run_neq_jn, decide_eq_true h3.symm]; rfl
          by_cases h4 : n.sn = o.sn
          · have hb : snapB o n = false := by unfold snapB; simp [h1, h2, h3, h4]
            have q4 : (o.sn.toList != n.sn.toList) = false := by rw [h4]; simp
            have q5 : (o.sn.toList == n.sn.toList) = true := by rw [h4]; simp
            have HB := Lib.hid hb
            clear h1 h2 h3 h4 hb
            go_wp2_with fail
            go_meet
            case rel => exact ⟨by rw [HB.out], rfl⟩
          · have hb : snapB o n = true := by unfold snapB; simp [h4]
            have q5 := toList_neE (fun h => h4 h.symm : o.sn ≠ n.sn)
            have q4 : (o.sn.toList != n.sn.toList) = true := by unfold bne; rw [q5]; rfl
            have HB := Lib.hid hb
            clear h1 h2 h3 h4 hb
            go_wp2_with fail
            go_meet
            case rel => exact ⟨by rw [HB.out], rfl⟩
        · have hb : snapB o n = true := by unfold snapB; simp [h3]
          have q3 := joX_neq (fun h => h3 h.symm : o.l.j ≠ n.l.j)
          have HB := Lib.hid hb
          clear h1 h2 h3 hb
          go_wp2_with fail
          go_meet
          case rel => exact ⟨by rw [HB.out], rfl⟩
      · have hb : snapB o n = true := by unfold snapB; simp [h2]
        have q2 : (o.l.bt != n.l.bt) = true := by simp; exact fun h => h2 h.symm
        have HB := Lib.hid hb
        clear h1 h2 hb
        go_wp2_with fail
        go_meet
        case rel => exact ⟨by rw [HB.out], rfl⟩
    · have hb : snapB o n = true := by unfold snapB; simp [h1]
      have q1 : (o.l.b != n.l.b) = true := by simp; exact fun h => h1 h.symm
      have HB := Lib.hid hb
      clear h1 hb
      go_wp2_with fail
      go_meet
      case rel => exact ⟨by rw [HB.out], rfl⟩
  obtain ⟨rfl, hw⟩ := hcut
  rw [hw]
  clear hw wc
  obtain ⟨wl, hwl⟩ : ∃ x, wasL o n = x := ⟨_, rfl⟩
  have HWL := Lib.hid hwl
  clear hwl
  go_upto_if 74 with fail
  go_cut [7, 10] from 74 to 108 (fun v c wx => ∃ ct : Bool, c = .bool ct ∧ Hid ((∃ M, M = (if hardB o n = true then [recB 72 [r, n.tm, n.vt]] else []) ++ (if snapB o n = true then [recB 83 [r, n.l.b, n.l.bt] ++ encJo (joX n.l.j) ++ encT n.sn] else []) ∧ DrW w wx A C #[.int .i64 o.id, .int .i64 o.role, .int .i64 o.tm, .int .i64 o.vt, .int .i64 o.ld, .int .i64 o.wt, .int .i64 o.cm, .int .i64 o.sf, .int .i64 o.l.b, .int .i64 o.l.bt, .int .u16 o.l.j.ov, .int .u16 o.l.j.ox, .int .u16 o.l.j.ol, .int .i64 o.l.j.oe, .int .i64 o.l.j.ok, .int .u16 o.l.j.nv, .int .u16 o.l.j.nx, .int .u16 o.l.j.nl, .int .i64 o.l.j.ne, .int .i64 o.l.j.nk, .bool o.l.j.two, .slice po o.l.es.length co, .string o.sn, .int .u16 o.vs, .int .u16 o.hd, .int .i64 (o.nx 0), .int .i64 (o.nx 1), .int .i64 (o.nx 2), .int .i64 (o.nx 3), .int .i64 (o.nx 4), .int .i64 (o.nx 5), .int .i64 (o.nx 6), .int .i64 (o.nx 7), .int .i64 (o.nx 8), .int .i64 (o.nx 9), .int .i64 (o.mt 0), .int .i64 (o.mt 1), .int .i64 (o.mt 2), .int .i64 (o.mt 3), .int .i64 (o.mt 4), .int .i64 (o.mt 5), .int .i64 (o.mt 6), .int .i64 (o.mt 7), .int .i64 (o.mt 8), .int .i64 (o.mt 9)] #[.int .i64 n.id, .int .i64 n.role, .int .i64 n.tm, .int .i64 n.vt, .int .i64 n.ld, .int .i64 n.wt, .int .i64 n.cm, .int .i64 n.sf, .int .i64 n.l.b, .int .i64 n.l.bt, .int .u16 n.l.j.ov, .int .u16 n.l.j.ox, .int .u16 n.l.j.ol, .int .i64 n.l.j.oe, .int .i64 n.l.j.ok, .int .u16 n.l.j.nv, .int .u16 n.l.j.nx, .int .u16 n.l.j.nl, .int .i64 n.l.j.ne, .int .i64 n.l.j.nk, .bool n.l.j.two, .slice pn n.l.es.length cn, .string n.sn, .int .u16 n.vs, .int .u16 n.hd, .int .i64 (n.nx 0), .int .i64 (n.nx 1), .int .i64 (n.nx 2), .int .i64 (n.nx 3), .int .i64 (n.nx 4), .int .i64 (n.nx 5), .int .i64 (n.nx 6), .int .i64 (n.nx 7), .int .i64 (n.nx 8), .int .i64 (n.nx 9), .int .i64 (n.mt 0), .int .i64 (n.mt 1), .int .i64 (n.mt 2), .int .i64 (n.mt 3), .int .i64 (n.mt 4), .int .i64 (n.mt 5), .int .i64 (n.mt 6), .int .i64 (n.mt 7), .int .i64 (n.mt 8), .int .i64 (n.mt 9)] v M) ∧ (wx.heap[D]? = some (.cells #[.int .i64 o.l.b, .int .i64 o.l.bt, .int .u16 o.l.j.ov, .int .u16 o.l.j.ox, .int .u16 o.l.j.ol, .int .i64 o.l.j.oe, .int .i64 o.l.j.ok, .int .u16 o.l.j.nv, .int .u16 o.l.j.nx, .int .u16 o.l.j.nl, .int .i64 o.l.j.ne, .int .i64 o.l.j.nk, .bool o.l.j.two, .slice po o.l.es.length co] 45 (0, 0)) ∧ wx.heap[E]? = some (.cells #[.int .i64 n.l.b, .int .i64 n.l.bt, .int .u16 n.l.j.ov, .int .u16 n.l.j.ox, .int .u16 n.l.j.ol, .int .i64 n.l.j.oe, .int .i64 n.l.j.ok, .int .u16 n.l.j.nv, .int .u16 n.l.j.nx, .int .u16 n.l.j.nl, .int .i64 n.l.j.ne, .int .i64 n.l.j.nk, .bool n.l.j.two, .slice pn n.l.es.length cn] 45 (0, 0))) ∧ (ct = true → wl = o.l) ∧ (ct = false → wl = ⟨n.l.b, 0, jn0, []⟩)))
  case first =>
    cases hb : snapB o n with
    | false =>
      have e : wl = o.l := by rw [← HWL.out]; unfold wasL; rw [hb]; simp
      have HB := Lib.hid hb; have HE0 := Lib.hid e
      clear hb kA kC kD kE e
      go_wp2_with fail
      go_meet
      case rel => exact ⟨true, rfl, ⟨M1, by rw [HM1.out, HB.out]; simp, HW2.out⟩, ⟨HD.out, HE.out⟩, fun _ => HE0.out, fun h => by cases h⟩
    | true =>
      have HB := Lib.hid hb
      clear hb kA kC kD kE
      go_upto_region 7 with fail
      have h0 : Below W2.heap.size W2 W2.drew := (Below.refl _ _).drew
      have kE : ∀ w', Below W2.heap.size W2 w' → ∀ j, w'.cell? ⟨E, j, none⟩ = #[.int .i64 n.l.b, .int .i64 n.l.bt, .int .u16 n.l.j.ov, .int .u16 n.l.j.ox, .int .u16 n.l.j.ol, .int .i64 n.l.j.oe, .int .i64 n.l.j.ok, .int .u16 n.l.j.nv, .int .u16 n.l.j.nx, .int .u16 n.l.j.nl, .int .i64 n.l.j.ne, .int .i64 n.l.j.nk, .bool n.l.j.two, .slice pn n.l.es.length cn][j]? := fun w' h => block_cells (below_block h (block_lt HE.out) HE.out)
      refine wp_region_noPanic ?_
      refine wp_region_held_drew (S := fun w' => Below W2.heap.size W2 w') (by kernel_rfl) h0 (fun hHeld => ?_)
      obtain ⟨wd, ewd⟩ : ∃ x, W2.drew = x := ⟨_, rfl⟩
      rw [ewd] at h0 hHeld ⊢
      clear ewd
      refine wpAnyH_take (i := 0) (v := ?_) rfl (by kernel_rfl) (by kernel_rfl) (by kernel_rfl) (fun _ _ _ h => h) (Or.inl ⟨by rfl, ?_⟩) hHeld ?_
      rotate_left
      · (intro wz hSw; (try dsimp only at hSw); (try simp only [List.getElem_toArray, List.getElem_cons_zero]); go_simp; try with_reducible rfl)
      try simp only [List.getElem_toArray, List.getElem_cons_zero, Act.put, List.setIfInBounds_toArray, List.set_cons_zero, List.set_cons_succ]
      refine wpAnyH_take (i := 1) (v := ?_) rfl (by kernel_rfl) (by kernel_rfl) (by kernel_rfl) (fun _ _ _ h => h) (Or.inl ⟨by rfl, ?_⟩) hHeld ?_
      rotate_left
      · (intro wz hSw; (try dsimp only at hSw); (try simp only [List.getElem_toArray, List.getElem_cons_succ, List.getElem_cons_zero]); go_simp; try with_reducible rfl)
      try simp only [List.getElem_toArray, List.getElem_cons_succ, List.getElem_cons_zero, Act.put, List.setIfInBounds_toArray, List.set_cons_zero, List.set_cons_succ]
      refine wpAnyH_take (i := 2) (v := ?_) rfl (by kernel_rfl) (by kernel_rfl) (by kernel_rfl) (fun _ _ _ h => h) (Or.inl ⟨by rfl, ?_⟩) hHeld ?_
      rotate_left
      · (intro wz hSw; (try dsimp only at hSw); (try simp only [List.getElem_toArray, List.getElem_cons_succ, List.getElem_cons_zero]); go_simp; try with_reducible rfl)
      try simp only [List.getElem_toArray, List.getElem_cons_succ, List.getElem_cons_zero, Act.put, List.setIfInBounds_toArray, List.set_cons_zero, List.set_cons_succ]
      refine wpAnyH_take (i := 3) (v := ?_) rfl (by kernel_rfl) (by kernel_rfl) (by kernel_rfl) (fun _ _ _ h => h) (Or.inl ⟨by rfl, ?_⟩) hHeld ?_
      rotate_left
      · (intro wz hSw; (try dsimp only at hSw); (try simp only [List.getElem_toArray, List.getElem_cons_succ, List.getElem_cons_zero]); go_simp; try with_reducible rfl)
      try simp only [List.getElem_toArray, List.getElem_cons_succ, List.getElem_cons_zero, Act.put, List.setIfInBounds_toArray, List.set_cons_zero, List.set_cons_succ]
      refine wpAnyH_take (i := 4) (v := ?_) rfl (by kernel_rfl) (by kernel_rfl) (by kernel_rfl) (fun _ _ _ h => h) (Or.inl ⟨by rfl, ?_⟩) hHeld ?_
      rotate_left
      · (intro wz hSw; (try dsimp only at hSw); (try simp only [List.getElem_toArray, List.getElem_cons_succ, List.getElem_cons_zero]); go_simp; try with_reducible rfl)
      try simp only [List.getElem_toArray, List.getElem_cons_succ, List.getElem_cons_zero, Act.put, List.setIfInBounds_toArray, List.set_cons_zero, List.set_cons_succ]
      refine wpAnyH_take (i := 7) (v := ?_) rfl (by kernel_rfl) (by kernel_rfl) (by kernel_rfl) (fun _ _ _ h => h) (Or.inl ⟨by rfl, ?_⟩) hHeld ?_
      rotate_left
      · (intro wz hSw; (try dsimp only at hSw); (try simp only [List.getElem_toArray, List.getElem_cons_succ, List.getElem_cons_zero]); go_simp; try with_reducible rfl)
      try simp only [List.getElem_toArray, List.getElem_cons_succ, List.getElem_cons_zero, Act.put, List.setIfInBounds_toArray, List.set_cons_zero, List.set_cons_succ]
      refine wpAnyH_take (i := 8) (v := ?_) rfl (by kernel_rfl) (by kernel_rfl) (by kernel_rfl) (fun _ _ _ h => h) (Or.inl ⟨by rfl, ?_⟩) hHeld ?_
      rotate_left
      · (intro wz hSw; (try dsimp only at hSw); (try simp only [List.getElem_toArray, List.getElem_cons_succ, List.getElem_cons_zero]); go_simp; try with_reducible rfl)
      try simp only [List.getElem_toArray, List.getElem_cons_succ, List.getElem_cons_zero, Act.put, List.setIfInBounds_toArray, List.set_cons_zero, List.set_cons_succ]
      refine wpAnyH_ready (rs := [5]) (by kernel_rfl) (by simp) ?_; refine AllReadyH.cons rfl (fun K hK => ?_) AllReadyH.nil; (try simp only [List.getElem_toArray, List.getElem_cons_succ, List.getElem_cons_zero]); go_simp
      obtain ⟨w1, ew⟩ : ∃ x : World, wd.alloc (.cells #[.int .i64 r, .int .i64 n.l.b, .int .i64 n.l.bt] 3) = x := ⟨_, rfl⟩
      have b1 : Below wd.heap.size wd w1 := by rw [← ew]; exact (Below.refl _ _).alloc (Nat.le_refl _) _
      have q1 : w1.heap[wd.heap.size]? = some (.cells #[.int .i64 r, .int .i64 n.l.b, .int .i64 n.l.bt] 3 (0, 0)) := by rw [← ew]; exact heap_last wd _
      rw [ew]
      obtain ⟨G, eG⟩ : ∃ x, wd.heap.size = x := ⟨_, rfl⟩
      (try rw [eG])
      rw [eG] at q1
      have s1 := h0.trans (b1.mono h0.size)
      refine hK.out _ _ s1 (fun _ => ?_)
      clear hK K hHeld ew eG
      try simp only [List.getElem_toArray, List.getElem_cons_succ, List.getElem_cons_zero, Act.put, List.setIfInBounds_toArray, List.set_cons_zero, List.set_cons_succ]
      have hHeld := s1
      refine wpAnyH_ready (rs := [6]) (by kernel_rfl) (by simp) ?_; refine AllReadyH.cons rfl (fun K hK => ?_) AllReadyH.nil; (try simp only [List.getElem_toArray, List.getElem_cons_succ, List.getElem_cons_zero]); go_simp
      have HI : Hid (∀ x ∈ [r, n.l.b, n.l.bt], In64 x) := fun x hx => by
        simp only [List.mem_cons, List.not_mem_nil, or_false] at hx
        rcases hx with rfl | rfl | rfl
        · exact HRI.out
        · have := HFN.out.b0; have := HFN.out.b1; unfold In64; omega
        · exact HN.out.bt
      have hrl : (recB 83 [r, n.l.b, n.l.bt]).length ≤ 31 := by have := recB_len (c := 83) HI.out; simpa using this
      refine (rrec_any 83 (some ⟨G, 0, none⟩) 3 [r, n.l.b, n.l.bt] w1 (nums_ofH q1) HI.out (by simp)).mono ?_; rintro r0 w2 ⟨v2, rfl, o2', b2⟩
      have o2 := o2'.mono s1.size
      have s2 := s1.trans (b2.mono s1.size)
      refine hK.out _ _ s2 (fun _ => ?_)
      clear hK K hHeld q1 o2'
      try simp only [List.getElem_toArray, List.getElem_cons_succ, List.getElem_cons_zero, Act.put, List.setIfInBounds_toArray, List.set_cons_zero, List.set_cons_succ]
      have hHeld := s2
      refine wpAnyH_ready (rs := [9]) (by kernel_rfl) (by simp) ?_; refine AllReadyH.cons rfl (fun K hK => ?_) AllReadyH.nil; (try simp only [List.getElem_toArray, List.getElem_cons_succ, List.getElem_cons_zero]); go_simp
      refine (rjoint_any (joX n.l.j) w2 HN.out.j).mono ?_; rintro r0 w3 ⟨v3, rfl, o3, b3⟩
      have o2' := own_keptH o2 b3
      have s3 := s2.trans (b3.mono s2.size)
      have hjl : (encJo (joX n.l.j)).length ≤ 200 := encJo_leH HN.out.j
      have hjm : 0 < (encJo (joX n.l.j)).length := by unfold encJo encF; rw [List.length_append, List.length_singleton]; omega
      refine hK.out _ _ s3 (fun _ => ?_)
      clear hK K hHeld o2
      try simp only [List.getElem_toArray, List.getElem_cons_succ, List.getElem_cons_zero, Act.put, List.setIfInBounds_toArray, List.set_cons_zero, List.set_cons_succ]
      have hHeld := s3
      obtain ⟨i1, hi1, hy0, hy1, hy2⟩ := info_parts Try.infoU8
      refine wpAnyH_ready (rs := [10]) (by kernel_rfl) (by simp) ?_; refine AllReadyH.cons rfl (fun K hK => ?_) AllReadyH.nil
      rw [if_pos (by rfl)]
      refine wp_append_row _ _ 32 (by rfl) W2.heap.size 5 i1 (.int .u8 0) 1 1 Try.underlying32 hi1 hy0 hy1 hy2 rfl (by decide) v2 (recB 83 [r, n.l.b, n.l.bt]).length (byt (recB 83 [r, n.l.b, n.l.bt])) (by rfl) o2' w3.heap.size v3 (encJo (joX n.l.j)).length (byt (encJo (joX n.l.j))) (by rfl) (Sl.of_own o3) hjm (byt_one _) (by unfold maxLen; omega) (by omega) s3.size ?_
      intro v4 w4 h2 h3 h4
      have s4 : Below W2.heap.size W2 w4 := s3.grown h3 s3.size (fun k hk => (o2'.lt k hk).1)
      have o4 : w4.ownsRow W2.heap.size 5 1 v4 (recB 83 [r, n.l.b, n.l.bt] ++ encJo (joX n.l.j)).length (byt (recB 83 [r, n.l.b, n.l.bt] ++ encJo (joX n.l.j))) := by
        rw [List.length_append, show byt (recB 83 [r, n.l.b, n.l.bt] ++ encJo (joX n.l.j)) = byt (recB 83 [r, n.l.b, n.l.bt]) ++ byt (encJo (joX n.l.j)) by simp [byt]]
        exact h2
      refine hK.out _ _ s4 (fun _ => ?_)
      clear hK K hHeld o2' o3 s3 b3 s2 b2 s1 b1 h2 h3 h4
      try simp only [List.getElem_toArray, List.getElem_cons_succ, List.getElem_cons_zero, Act.put, List.setIfInBounds_toArray, List.set_cons_zero, List.set_cons_succ]
      have hHeld := s4
      refine wpAnyH_take (i := 11) (v := ?_) rfl (by kernel_rfl) (by kernel_rfl) (by kernel_rfl) (fun _ _ _ h => h) (Or.inl ⟨by rfl, ?_⟩) hHeld ?_
      rotate_left
      · (intro wz hSw; (try dsimp only at hSw); (try simp only [List.getElem_toArray, List.getElem_cons_succ, List.getElem_cons_zero]); go_simp; try with_reducible rfl)
      try simp only [List.getElem_toArray, List.getElem_cons_succ, List.getElem_cons_zero, Act.put, List.setIfInBounds_toArray, List.set_cons_zero, List.set_cons_succ]
      refine wpAnyH_done (by kernel_rfl) ?_ _
      refine NoPanic.normal ?_
      clear hHeld kE
      obtain ⟨cu, w5, hcv, hs5, hb5⟩ := conv_bytes n.sn w4 (by have := HN.out.sn; unfold maxLen; omega)
      have s5 := s4.trans (hb5.mono s4.size)
      have o5 := own_keptH o4 hb5
      have kC := block_cells (HW2.out.keep s4).c
      have hsl : (txW n.sn).length ≤ 1000000 := by rw [txW_len]; exact HN.out.sn
      have HT := Lib.hid (refText_any w5.heap.size v4 _ (recB 83 [r, n.l.b, n.l.bt] ++ encJo (joX n.l.j)) (txW n.sn) w5 (Sl.of_own o5) hs5 (Nat.le_refl _) (by rw [List.length_append]; omega))
      have HS5 := Lib.hid s5
      clear s4 o4 hb5 o5 s5 hs5 h0
      go_wp2_with fail
      refine HT.out.mono ?_; rintro r0 w6 ⟨v6, rfl, o6, b6⟩
      clear hcv kC
      have hX : recB 83 [r, n.l.b, n.l.bt] ++ encJo (joX n.l.j) ++ varN (txW n.sn).length ++ txW n.sn = recB 83 [r, n.l.b, n.l.bt] ++ encJo (joX n.l.j) ++ encT n.sn := by rw [txW_len]; simp [encT]
      rw [hX] at o6
      obtain ⟨X6, hX6⟩ : ∃ X, recB 83 [r, n.l.b, n.l.bt] ++ encJo (joX n.l.j) ++ encT n.sn = X := ⟨_, rfl⟩
      rw [hX6] at o6
      have HX6 := Lib.hid hX6
      have s6 := HS5.out.trans (b6.mono HS5.out.size)
      have HW6 := Lib.hid (HW2.out.keep s6)
      have HD6 := Lib.hid (below_block s6 (block_lt HD.out) HD.out)
      have HE6 := Lib.hid (below_block s6 (block_lt HE.out) HE.out)
      have ho1 := o6
      have hb1 := Below.refl w6.heap.size w6
      have hm1 : M1.length ≤ 2 := by
        have := congrArg List.length HM1.out
        cases hh : hardB o n with
        | true => rw [hh] at this; simp only [if_true, List.length_cons, List.length_nil] at this; omega
        | false => rw [hh] at this; simp only [Bool.false_eq_true, if_false, List.length_nil] at this; omega
      clear hX o6 b6 s6 HT HS5 hX6
      have hcv := run_convert_sl (P := Try.prog) (Sl.of_own ho1) 32 5 Try.underlying32 Try.underlying5 9 Try.underlying9
      have hb0 := hb1
      have hbx : Below w6.heap.size w6 (w6.alloc (.cells #[.string (strOfNums (X6))] 9)) := (Below.refl _ _).alloc (Nat.le_refl _) _
      have HWx := Lib.hid ((HW6.out.keep hb1).keep hbx)
      have HQx : Hid ((w6.alloc (.cells #[.string (strOfNums (X6))] 9)).heap[w6.heap.size]? = some (.cells #[.string (strOfNums (X6))] 9 (0, 0))) := heap_last w6 _
      have HDx := Lib.hid (below_block hbx (block_lt HD6.out) HD6.out)
      have HEx := Lib.hid (below_block hbx (block_lt HE6.out) HE6.out)
      clear hb1 hbx
      go_wp2_with (at_builtin; go_loud (refine wpList_append_sl_at rfl _ _ 31 rfl w.heap.size 9 i0 (.string ⟨#[]⟩) 1 16 Try.underlying31 hi0 hz0 hz1 hz2 rfl (by decide) v1 M1.length (stR M1) rfl HWx.out.l _ _ 1 [.string (strOfNums (X6))] rfl (sl_oneB HQx.out) (by intro u hu; rw [List.mem_singleton] at hu; rw [hu]; rfl) ?d1 ?d2 ?d3 ?_))
      case d1 => (try simp only [List.length_nil]); unfold maxLen; omega
      case d2 => (try simp only [List.length_nil]); omega
      case d3 => exact HWx.out.b.size
      intro vy wy h2 h3 h4
      have HW2 := Lib.hid (HWx.out.app h2 h3)
      have HDy := Lib.hid (blk_keep HDx.out HWx.out.l (by decide) h3)
      have HEy := Lib.hid (blk_keep HEx.out HWx.out.l (by decide) h3)
      clear h2 h3 h4 HWx HQx hcv
      obtain ⟨⟨T, b⟩, hT⟩ : ∃ x, termL o.l n.l.b = x := ⟨_, rfl⟩
      have hfn : -9223372036854775808 ≤ n.l.b ∧ n.l.b ≤ 9223372036854775807 := by have := HFN.out.b0; have := HFN.out.b1; omega
      have HTm := Lib.hid (rterm_is o.l po co wy HFO.out hfn (HEO.out.keep HW2.out.b (Nat.le_refl _)))
      rw [hT] at HTm
      have HTT := Lib.hid hT
      have kE := block_cells HEy.out
      have kD := block_cells HDy.out
      have HMy : Hid (M1 ++ [X6] = (if hardB o n = true then [recB 72 [r, n.tm, n.vt]] else []) ++ (if snapB o n = true then [recB 83 [r, n.l.b, n.l.bt] ++ encJo (joX n.l.j) ++ encT n.sn] else [])) := by show _ = _; rw [HM1.out, HB.out, ← HX6.out]; rfl
      clear hT hfn HX6
      go_wp2_with fail
      refine HTm.out.mono ?_; rintro r0 w7 ⟨rfl, hb7⟩
      have HW7 := Lib.hid (HW2.out.keep hb7)
      have HD7 := Lib.hid (below_block hb7 (block_lt HDy.out) HDy.out)
      have HE7 := Lib.hid (below_block hb7 (block_lt HEy.out) HEy.out)
      clear hb7 kE kD HTm HW2 HDy HEy
      have kE := block_cells HE7.out
      cases b with
      | false =>
        have e : wl = ⟨n.l.b, 0, jn0, []⟩ := by
          rw [← HWL.out]; unfold wasL; rw [HTT.out, if_pos ⟨HB.out, by simp⟩]
        have HE0 := Lib.hid e
        clear e
        go_wp2_with fail
        go_meet
        case rel => exact ⟨false, rfl, ⟨_, HMy.out, HW7.out⟩, ⟨HD7.out, HE7.out⟩, (fun h => by cases h), fun _ => HE0.out⟩
      | true =>
        by_cases hy : T = n.l.bt
        · have e : wl = o.l := by rw [← HWL.out]; unfold wasL; rw [HTT.out, hy]; simp
          have HE0 := Lib.hid e
          have hq : (T == n.l.bt) = true := by simpa using hy
          clear e hy
          go_wp2_with fail
          go_meet
          case rel => exact ⟨true, rfl, ⟨_, HMy.out, HW7.out⟩, ⟨HD7.out, HE7.out⟩, (fun _ => HE0.out), fun h => by cases h⟩
        · have e : wl = ⟨n.l.b, 0, jn0, []⟩ := by
            rw [← HWL.out]; unfold wasL; rw [HTT.out, if_pos ⟨HB.out, fun h => by injection h with h1 h2; exact hy h1⟩]
          have HE0 := Lib.hid e
          have hq : (T == n.l.bt) = false := by simpa using hy
          clear e hy
          go_wp2_with fail
          go_meet
          case rel => exact ⟨false, rfl, ⟨_, HMy.out, HW7.out⟩, ⟨HD7.out, HE7.out⟩, (fun h => by cases h), fun _ => HE0.out⟩
  obtain ⟨v2, hv2⟩ : ∃ x, x = u7 := ⟨_, rfl⟩
  rw [← hv2] at hcut ⊢
  clear hv2
  obtain ⟨ct, rfl, hst⟩ := hcut
  obtain ⟨W3, rfl⟩ : ∃ x : World, x = wc := ⟨_, rfl⟩
  obtain ⟨⟨M2, hM2, hW3⟩, ⟨hD3, hE3⟩, hc1, hc0⟩ := hst.out
  have HM2 := Lib.hid hM2; have HS3 : Hid (DrW w W3 A C #[.int .i64 o.id, .int .i64 o.role, .int .i64 o.tm, .int .i64 o.vt, .int .i64 o.ld, .int .i64 o.wt, .int .i64 o.cm, .int .i64 o.sf, .int .i64 o.l.b, .int .i64 o.l.bt, .int .u16 o.l.j.ov, .int .u16 o.l.j.ox, .int .u16 o.l.j.ol, .int .i64 o.l.j.oe, .int .i64 o.l.j.ok, .int .u16 o.l.j.nv, .int .u16 o.l.j.nx, .int .u16 o.l.j.nl, .int .i64 o.l.j.ne, .int .i64 o.l.j.nk, .bool o.l.j.two, .slice po o.l.es.length co, .string o.sn, .int .u16 o.vs, .int .u16 o.hd, .int .i64 (o.nx 0), .int .i64 (o.nx 1), .int .i64 (o.nx 2), .int .i64 (o.nx 3), .int .i64 (o.nx 4), .int .i64 (o.nx 5), .int .i64 (o.nx 6), .int .i64 (o.nx 7), .int .i64 (o.nx 8), .int .i64 (o.nx 9), .int .i64 (o.mt 0), .int .i64 (o.mt 1), .int .i64 (o.mt 2), .int .i64 (o.mt 3), .int .i64 (o.mt 4), .int .i64 (o.mt 5), .int .i64 (o.mt 6), .int .i64 (o.mt 7), .int .i64 (o.mt 8), .int .i64 (o.mt 9)] #[.int .i64 n.id, .int .i64 n.role, .int .i64 n.tm, .int .i64 n.vt, .int .i64 n.ld, .int .i64 n.wt, .int .i64 n.cm, .int .i64 n.sf, .int .i64 n.l.b, .int .i64 n.l.bt, .int .u16 n.l.j.ov, .int .u16 n.l.j.ox, .int .u16 n.l.j.ol, .int .i64 n.l.j.oe, .int .i64 n.l.j.ok, .int .u16 n.l.j.nv, .int .u16 n.l.j.nx, .int .u16 n.l.j.nl, .int .i64 n.l.j.ne, .int .i64 n.l.j.nk, .bool n.l.j.two, .slice pn n.l.es.length cn, .string n.sn, .int .u16 n.vs, .int .u16 n.hd, .int .i64 (n.nx 0), .int .i64 (n.nx 1), .int .i64 (n.nx 2), .int .i64 (n.nx 3), .int .i64 (n.nx 4), .int .i64 (n.nx 5), .int .i64 (n.nx 6), .int .i64 (n.nx 7), .int .i64 (n.nx 8), .int .i64 (n.nx 9), .int .i64 (n.mt 0), .int .i64 (n.mt 1), .int .i64 (n.mt 2), .int .i64 (n.mt 3), .int .i64 (n.mt 4), .int .i64 (n.mt 5), .int .i64 (n.mt 6), .int .i64 (n.mt 7), .int .i64 (n.mt 8), .int .i64 (n.mt 9)] v2 M2 ∧ W3.heap[D]? = some (.cells #[.int .i64 o.l.b, .int .i64 o.l.bt, .int .u16 o.l.j.ov, .int .u16 o.l.j.ox, .int .u16 o.l.j.ol, .int .i64 o.l.j.oe, .int .i64 o.l.j.ok, .int .u16 o.l.j.nv, .int .u16 o.l.j.nx, .int .u16 o.l.j.nl, .int .i64 o.l.j.ne, .int .i64 o.l.j.nk, .bool o.l.j.two, .slice po o.l.es.length co] 45 (0, 0)) ∧ W3.heap[E]? = some (.cells #[.int .i64 n.l.b, .int .i64 n.l.bt, .int .u16 n.l.j.ov, .int .u16 n.l.j.ox, .int .u16 n.l.j.ol, .int .i64 n.l.j.oe, .int .i64 n.l.j.ok, .int .u16 n.l.j.nv, .int .u16 n.l.j.nx, .int .u16 n.l.j.nl, .int .i64 n.l.j.ne, .int .i64 n.l.j.nk, .bool n.l.j.two, .slice pn n.l.es.length cn] 45 (0, 0))) := ⟨hW3, hD3, hE3⟩
  have HC1 := Lib.hid hc1; have HC0 := Lib.hid hc0
  clear hM2 hW3 hD3 hE3 hc1 hc0 hst kA kC kD kE HW2 HD HE HM1
  have hb0 := HFN.out.b0; have hb1 := HFN.out.b1; have hbn := HFN.out.n
  have kE := block_cells HS3.out.2.2
  go_upto_block 0 with fail
  go_cut [14] from 111 to 138 (fun s wx => s = .int .i64 (n.l.b + ((preN wl n.l.b n.l.es : Nat) : Int)) ∧ Hid (DrW w wx A C #[.int .i64 o.id, .int .i64 o.role, .int .i64 o.tm, .int .i64 o.vt, .int .i64 o.ld, .int .i64 o.wt, .int .i64 o.cm, .int .i64 o.sf, .int .i64 o.l.b, .int .i64 o.l.bt, .int .u16 o.l.j.ov, .int .u16 o.l.j.ox, .int .u16 o.l.j.ol, .int .i64 o.l.j.oe, .int .i64 o.l.j.ok, .int .u16 o.l.j.nv, .int .u16 o.l.j.nx, .int .u16 o.l.j.nl, .int .i64 o.l.j.ne, .int .i64 o.l.j.nk, .bool o.l.j.two, .slice po o.l.es.length co, .string o.sn, .int .u16 o.vs, .int .u16 o.hd, .int .i64 (o.nx 0), .int .i64 (o.nx 1), .int .i64 (o.nx 2), .int .i64 (o.nx 3), .int .i64 (o.nx 4), .int .i64 (o.nx 5), .int .i64 (o.nx 6), .int .i64 (o.nx 7), .int .i64 (o.nx 8), .int .i64 (o.nx 9), .int .i64 (o.mt 0), .int .i64 (o.mt 1), .int .i64 (o.mt 2), .int .i64 (o.mt 3), .int .i64 (o.mt 4), .int .i64 (o.mt 5), .int .i64 (o.mt 6), .int .i64 (o.mt 7), .int .i64 (o.mt 8), .int .i64 (o.mt 9)] #[.int .i64 n.id, .int .i64 n.role, .int .i64 n.tm, .int .i64 n.vt, .int .i64 n.ld, .int .i64 n.wt, .int .i64 n.cm, .int .i64 n.sf, .int .i64 n.l.b, .int .i64 n.l.bt, .int .u16 n.l.j.ov, .int .u16 n.l.j.ox, .int .u16 n.l.j.ol, .int .i64 n.l.j.oe, .int .i64 n.l.j.ok, .int .u16 n.l.j.nv, .int .u16 n.l.j.nx, .int .u16 n.l.j.nl, .int .i64 n.l.j.ne, .int .i64 n.l.j.nk, .bool n.l.j.two, .slice pn n.l.es.length cn, .string n.sn, .int .u16 n.vs, .int .u16 n.hd, .int .i64 (n.nx 0), .int .i64 (n.nx 1), .int .i64 (n.nx 2), .int .i64 (n.nx 3), .int .i64 (n.nx 4), .int .i64 (n.nx 5), .int .i64 (n.nx 6), .int .i64 (n.nx 7), .int .i64 (n.nx 8), .int .i64 (n.nx 9), .int .i64 (n.mt 0), .int .i64 (n.mt 1), .int .i64 (n.mt 2), .int .i64 (n.mt 3), .int .i64 (n.mt 4), .int .i64 (n.mt 5), .int .i64 (n.mt 6), .int .i64 (n.mt 7), .int .i64 (n.mt 8), .int .i64 (n.mt 9)] v2 M2 ∧ wx.heap[D]? = some (.cells #[.int .i64 o.l.b, .int .i64 o.l.bt, .int .u16 o.l.j.ov, .int .u16 o.l.j.ox, .int .u16 o.l.j.ol, .int .i64 o.l.j.oe, .int .i64 o.l.j.ok, .int .u16 o.l.j.nv, .int .u16 o.l.j.nx, .int .u16 o.l.j.nl, .int .i64 o.l.j.ne, .int .i64 o.l.j.nk, .bool o.l.j.two, .slice po o.l.es.length co] 45 (0, 0)) ∧ wx.heap[E]? = some (.cells #[.int .i64 n.l.b, .int .i64 n.l.bt, .int .u16 n.l.j.ov, .int .u16 n.l.j.ox, .int .u16 n.l.j.ol, .int .i64 n.l.j.oe, .int .i64 n.l.j.ok, .int .u16 n.l.j.nv, .int .u16 n.l.j.nx, .int .u16 n.l.j.nl, .int .i64 n.l.j.ne, .int .i64 n.l.j.nk, .bool n.l.j.two, .slice pn n.l.es.length cn] 45 (0, 0))))
  case first => as_aux_lemma =>
    clear kE
    cases ct with
    | false =>
      have e0 := HC0.out rfl
      have HP : Hid (preN wl n.l.b n.l.es = 0) := preN_at wl n.l.b n.l.es 0 (fun j h => absurd h (Nat.not_lt_zero j)) (fun h => by rw [e0]; unfold atL; split <;> simp) (Nat.zero_le _)
      clear e0
      go_wp2_with fail
      refine wp_loop_rounds 1 ?_
      rw [rounds_succ]
      go_wp2_with fail
      go_meet
      case rel => exact ⟨by rw [HP.out]; simp, HS3.out⟩
    | true =>
      have e0 := HC1.out rfl
      subst e0
      have HO : Hid ((DrW w W3 A C #[.int .i64 o.id, .int .i64 o.role, .int .i64 o.tm, .int .i64 o.vt, .int .i64 o.ld, .int .i64 o.wt, .int .i64 o.cm, .int .i64 o.sf, .int .i64 o.l.b, .int .i64 o.l.bt, .int .u16 o.l.j.ov, .int .u16 o.l.j.ox, .int .u16 o.l.j.ol, .int .i64 o.l.j.oe, .int .i64 o.l.j.ok, .int .u16 o.l.j.nv, .int .u16 o.l.j.nx, .int .u16 o.l.j.nl, .int .i64 o.l.j.ne, .int .i64 o.l.j.nk, .bool o.l.j.two, .slice po o.l.es.length co, .string o.sn, .int .u16 o.vs, .int .u16 o.hd, .int .i64 (o.nx 0), .int .i64 (o.nx 1), .int .i64 (o.nx 2), .int .i64 (o.nx 3), .int .i64 (o.nx 4), .int .i64 (o.nx 5), .int .i64 (o.nx 6), .int .i64 (o.nx 7), .int .i64 (o.nx 8), .int .i64 (o.nx 9), .int .i64 (o.mt 0), .int .i64 (o.mt 1), .int .i64 (o.mt 2), .int .i64 (o.mt 3), .int .i64 (o.mt 4), .int .i64 (o.mt 5), .int .i64 (o.mt 6), .int .i64 (o.mt 7), .int .i64 (o.mt 8), .int .i64 (o.mt 9)] #[.int .i64 n.id, .int .i64 n.role, .int .i64 n.tm, .int .i64 n.vt, .int .i64 n.ld, .int .i64 n.wt, .int .i64 n.cm, .int .i64 n.sf, .int .i64 n.l.b, .int .i64 n.l.bt, .int .u16 n.l.j.ov, .int .u16 n.l.j.ox, .int .u16 n.l.j.ol, .int .i64 n.l.j.oe, .int .i64 n.l.j.ok, .int .u16 n.l.j.nv, .int .u16 n.l.j.nx, .int .u16 n.l.j.nl, .int .i64 n.l.j.ne, .int .i64 n.l.j.nk, .bool n.l.j.two, .slice pn n.l.es.length cn, .string n.sn, .int .u16 n.vs, .int .u16 n.hd, .int .i64 (n.nx 0), .int .i64 (n.nx 1), .int .i64 (n.nx 2), .int .i64 (n.nx 3), .int .i64 (n.nx 4), .int .i64 (n.nx 5), .int .i64 (n.nx 6), .int .i64 (n.nx 7), .int .i64 (n.nx 8), .int .i64 (n.nx 9), .int .i64 (n.mt 0), .int .i64 (n.mt 1), .int .i64 (n.mt 2), .int .i64 (n.mt 3), .int .i64 (n.mt 4), .int .i64 (n.mt 5), .int .i64 (n.mt 6), .int .i64 (n.mt 7), .int .i64 (n.mt 8), .int .i64 (n.mt 9)] v2 M2 ∧ W3.heap[D]? = some (.cells #[.int .i64 o.l.b, .int .i64 o.l.bt, .int .u16 o.l.j.ov, .int .u16 o.l.j.ox, .int .u16 o.l.j.ol, .int .i64 o.l.j.oe, .int .i64 o.l.j.ok, .int .u16 o.l.j.nv, .int .u16 o.l.j.nx, .int .u16 o.l.j.nl, .int .i64 o.l.j.ne, .int .i64 o.l.j.nk, .bool o.l.j.two, .slice po o.l.es.length co] 45 (0, 0)) ∧ W3.heap[E]? = some (.cells #[.int .i64 n.l.b, .int .i64 n.l.bt, .int .u16 n.l.j.ov, .int .u16 n.l.j.ox, .int .u16 n.l.j.ol, .int .i64 n.l.j.oe, .int .i64 n.l.j.ok, .int .u16 n.l.j.nv, .int .u16 n.l.j.nx, .int .u16 n.l.j.nl, .int .i64 n.l.j.ne, .int .i64 n.l.j.nk, .bool n.l.j.two, .slice pn n.l.es.length cn] 45 (0, 0))) ∧ ∀ j, (h : j < 0) → ∃ h' : j < n.l.es.length, atL o.l (n.l.b + (j : Int) + 1) = (n.l.es[j], true)) := ⟨HS3.out, fun j h => absurd h (Nat.not_lt_zero j)⟩
      have hz : n.l.b = n.l.b + ((0 : Nat) : Int) := by omega
      have HZ := Lib.hid hz
      clear hz HS3
      go_wp2_with fail
      go_loopw [14] (fun s wr => ∃ k : Nat, k ≤ n.l.es.length ∧ s = .int .i64 (n.l.b + (k : Int)) ∧ Hid ((DrW w wr A C #[.int .i64 o.id, .int .i64 o.role, .int .i64 o.tm, .int .i64 o.vt, .int .i64 o.ld, .int .i64 o.wt, .int .i64 o.cm, .int .i64 o.sf, .int .i64 o.l.b, .int .i64 o.l.bt, .int .u16 o.l.j.ov, .int .u16 o.l.j.ox, .int .u16 o.l.j.ol, .int .i64 o.l.j.oe, .int .i64 o.l.j.ok, .int .u16 o.l.j.nv, .int .u16 o.l.j.nx, .int .u16 o.l.j.nl, .int .i64 o.l.j.ne, .int .i64 o.l.j.nk, .bool o.l.j.two, .slice po o.l.es.length co, .string o.sn, .int .u16 o.vs, .int .u16 o.hd, .int .i64 (o.nx 0), .int .i64 (o.nx 1), .int .i64 (o.nx 2), .int .i64 (o.nx 3), .int .i64 (o.nx 4), .int .i64 (o.nx 5), .int .i64 (o.nx 6), .int .i64 (o.nx 7), .int .i64 (o.nx 8), .int .i64 (o.nx 9), .int .i64 (o.mt 0), .int .i64 (o.mt 1), .int .i64 (o.mt 2), .int .i64 (o.mt 3), .int .i64 (o.mt 4), .int .i64 (o.mt 5), .int .i64 (o.mt 6), .int .i64 (o.mt 7), .int .i64 (o.mt 8), .int .i64 (o.mt 9)] #[.int .i64 n.id, .int .i64 n.role, .int .i64 n.tm, .int .i64 n.vt, .int .i64 n.ld, .int .i64 n.wt, .int .i64 n.cm, .int .i64 n.sf, .int .i64 n.l.b, .int .i64 n.l.bt, .int .u16 n.l.j.ov, .int .u16 n.l.j.ox, .int .u16 n.l.j.ol, .int .i64 n.l.j.oe, .int .i64 n.l.j.ok, .int .u16 n.l.j.nv, .int .u16 n.l.j.nx, .int .u16 n.l.j.nl, .int .i64 n.l.j.ne, .int .i64 n.l.j.nk, .bool n.l.j.two, .slice pn n.l.es.length cn, .string n.sn, .int .u16 n.vs, .int .u16 n.hd, .int .i64 (n.nx 0), .int .i64 (n.nx 1), .int .i64 (n.nx 2), .int .i64 (n.nx 3), .int .i64 (n.nx 4), .int .i64 (n.nx 5), .int .i64 (n.nx 6), .int .i64 (n.nx 7), .int .i64 (n.nx 8), .int .i64 (n.nx 9), .int .i64 (n.mt 0), .int .i64 (n.mt 1), .int .i64 (n.mt 2), .int .i64 (n.mt 3), .int .i64 (n.mt 4), .int .i64 (n.mt 5), .int .i64 (n.mt 6), .int .i64 (n.mt 7), .int .i64 (n.mt 8), .int .i64 (n.mt 9)] v2 M2 ∧ wr.heap[D]? = some (.cells #[.int .i64 o.l.b, .int .i64 o.l.bt, .int .u16 o.l.j.ov, .int .u16 o.l.j.ox, .int .u16 o.l.j.ol, .int .i64 o.l.j.oe, .int .i64 o.l.j.ok, .int .u16 o.l.j.nv, .int .u16 o.l.j.nx, .int .u16 o.l.j.nl, .int .i64 o.l.j.ne, .int .i64 o.l.j.nk, .bool o.l.j.two, .slice po o.l.es.length co] 45 (0, 0)) ∧ wr.heap[E]? = some (.cells #[.int .i64 n.l.b, .int .i64 n.l.bt, .int .u16 n.l.j.ov, .int .u16 n.l.j.ox, .int .u16 n.l.j.ol, .int .i64 n.l.j.oe, .int .i64 n.l.j.ok, .int .u16 n.l.j.nv, .int .u16 n.l.j.nx, .int .u16 n.l.j.nl, .int .i64 n.l.j.ne, .int .i64 n.l.j.nk, .bool n.l.j.two, .slice pn n.l.es.length cn] 45 (0, 0))) ∧ ∀ j, (h : j < k) → ∃ h' : j < n.l.es.length, atL o.l (n.l.b + (j : Int) + 1) = (n.l.es[j], true))) (fun s _ => (n.l.b + n.l.es.length - intOf s).toNat)
      case atStart => exact ⟨0, Nat.zero_le _, by rw [← HZ.out], HO⟩
      case round =>
        clear HO
        obtain ⟨k, hk, rfl, HO⟩ := hrel
        obtain ⟨wk, rfl⟩ : ∃ wk : World, wk = wr := ⟨_, rfl⟩
        obtain ⟨⟨x, i1⟩, hA⟩ : ∃ z, atL o.l (n.l.b + (k : Int) + 1) = z := ⟨_, rfl⟩
        have HAT : Hid (atL o.l (n.l.b + (k : Int) + 1) = (x, i1)) := hA
        clear hA
        have hw2 : wrap64 (n.l.b + (k : Int) + 1) = n.l.b + (k : Int) + 1 := by unfold wrap64; omega
        have HCa : Hid (∀ w', Below wk.heap.size wk w' → Calls Try.prog 49 #[.agg #[.int .i64 o.l.b, .int .i64 o.l.bt, .int .u16 o.l.j.ov, .int .u16 o.l.j.ox, .int .u16 o.l.j.ol, .int .i64 o.l.j.oe, .int .i64 o.l.j.ok, .int .u16 o.l.j.nv, .int .u16 o.l.j.nx, .int .u16 o.l.j.nl, .int .i64 o.l.j.ne, .int .i64 o.l.j.nk, .bool o.l.j.two, .slice po o.l.es.length co], .int .i64 (n.l.b + (k : Int) + 1)] w' fun r w'' => r = .returned (.tuple #[.agg #[.int .i64 x.t, .int .i64 x.k, .string x.d, .int .u16 x.j.ov, .int .u16 x.j.ox, .int .u16 x.j.ol, .int .i64 x.j.oe, .int .i64 x.j.ok, .int .u16 x.j.nv, .int .u16 x.j.nx, .int .u16 x.j.nl, .int .i64 x.j.ne, .int .i64 x.j.nk, .bool x.j.two], .bool i1]) ∧ Below w'.heap.size w' w'') := fun w' h => rat_any o.l po co (n.l.b + (k : Int) + 1) w' HFO.out.b0 HFO.out.b1 HFO.out.n (by omega) (by omega) (HEO.out.keep (HO.out.1.1.keep h).b (Nat.le_refl _)) HAT
        have kD := block_cells HO.out.1.2.1
        by_cases hlt : k < n.l.es.length
        · obtain ⟨e, he⟩ : ∃ e, n.l.es[k] = e := ⟨_, rfl⟩
          have HBT : Hid (atL n.l (n.l.b + (k : Int) + 1) = (e, true)) := by show _ = _; rw [atL_in (k := k) (by omega) hlt, he]
          have HE := Lib.hid he
          clear he
          have HCb : Hid (∀ w', Below wk.heap.size wk w' → Calls Try.prog 49 #[.agg #[.int .i64 n.l.b, .int .i64 n.l.bt, .int .u16 n.l.j.ov, .int .u16 n.l.j.ox, .int .u16 n.l.j.ol, .int .i64 n.l.j.oe, .int .i64 n.l.j.ok, .int .u16 n.l.j.nv, .int .u16 n.l.j.nx, .int .u16 n.l.j.nl, .int .i64 n.l.j.ne, .int .i64 n.l.j.nk, .bool n.l.j.two, .slice pn n.l.es.length cn], .int .i64 (n.l.b + (k : Int) + 1)] w' fun r w'' => r = .returned (.tuple #[.agg #[.int .i64 e.t, .int .i64 e.k, .string e.d, .int .u16 e.j.ov, .int .u16 e.j.ox, .int .u16 e.j.ol, .int .i64 e.j.oe, .int .i64 e.j.ok, .int .u16 e.j.nv, .int .u16 e.j.nx, .int .u16 e.j.nl, .int .i64 e.j.ne, .int .i64 e.j.nk, .bool e.j.two], .bool true]) ∧ Below w'.heap.size w' w'') := fun w' h => rat_any n.l pn cn (n.l.b + (k : Int) + 1) w' HFN.out.b0 HFN.out.b1 HFN.out.n (by omega) (by omega) (HEN.out.keep (HO.out.1.1.keep h).b (Nat.le_refl _)) HBT
          go_wp2_with fail
          refine (HCa.out wk (Below.refl _ _)).mono ?_; rintro r0 w1 ⟨rfl, b1⟩
          go_upto_region 14 with fail
          obtain ⟨w2, hw⟩ : ∃ x' : World, w1.alloc (.cells #[.int .i64 x.t, .int .i64 x.k, .string x.d, .int .u16 x.j.ov, .int .u16 x.j.ox, .int .u16 x.j.ol, .int .i64 x.j.oe, .int .i64 x.j.ok, .int .u16 x.j.nv, .int .u16 x.j.nx, .int .u16 x.j.nl, .int .i64 x.j.ne, .int .i64 x.j.nk, .bool x.j.two] 85) = x' := ⟨_, rfl⟩
          have b2 : Below w1.heap.size w1 w2 := by rw [← hw]; exact (Below.refl _ _).alloc (Nat.le_refl _) _
          have hX : w2.heap[w1.heap.size]? = some (.cells #[.int .i64 x.t, .int .i64 x.k, .string x.d, .int .u16 x.j.ov, .int .u16 x.j.ox, .int .u16 x.j.ol, .int .i64 x.j.oe, .int .i64 x.j.ok, .int .u16 x.j.nv, .int .u16 x.j.nx, .int .u16 x.j.nl, .int .i64 x.j.ne, .int .i64 x.j.nk, .bool x.j.two] 85 (0, 0)) := by rw [← hw]; exact heap_last w1 _
          rw [hw]
          obtain ⟨X, eX⟩ : ∃ z, w1.heap.size = z := ⟨_, rfl⟩
          (try rw [eX])
          rw [eX] at hX
          have b12 := b1.trans (b2.mono b1.size)
          have HB12 := Lib.hid b12; have HX := Lib.hid hX
          clear hw b1 b2 eX b12 hX kD
          have kE := block_cells (below_block HB12.out (block_lt HO.out.1.2.2) HO.out.1.2.2)
          go_wp2_with fail
          refine (HCb.out w2 HB12.out).mono ?_; rintro r0 w3 ⟨rfl, b3⟩
          go_upto_region 15 with fail
          obtain ⟨w4, hw⟩ : ∃ x' : World, w3.alloc (.cells #[.int .i64 e.t, .int .i64 e.k, .string e.d, .int .u16 e.j.ov, .int .u16 e.j.ox, .int .u16 e.j.ol, .int .i64 e.j.oe, .int .i64 e.j.ok, .int .u16 e.j.nv, .int .u16 e.j.nx, .int .u16 e.j.nl, .int .i64 e.j.ne, .int .i64 e.j.nk, .bool e.j.two] 85) = x' := ⟨_, rfl⟩
          have b4 : Below w3.heap.size w3 w4 := by rw [← hw]; exact (Below.refl _ _).alloc (Nat.le_refl _) _
          have hY : w4.heap[w3.heap.size]? = some (.cells #[.int .i64 e.t, .int .i64 e.k, .string e.d, .int .u16 e.j.ov, .int .u16 e.j.ox, .int .u16 e.j.ol, .int .i64 e.j.oe, .int .i64 e.j.ok, .int .u16 e.j.nv, .int .u16 e.j.nx, .int .u16 e.j.nl, .int .i64 e.j.ne, .int .i64 e.j.nk, .bool e.j.two] 85 (0, 0)) := by rw [← hw]; exact heap_last w3 _
          rw [hw]
          obtain ⟨Y, eY⟩ : ∃ z, w3.heap.size = z := ⟨_, rfl⟩
          (try rw [eY])
          rw [eY] at hY
          have b34 := b3.trans (b4.mono b3.size)
          have b14 := HB12.out.trans (b34.mono HB12.out.size)
          have HS4 : Hid (DrW w w4 A C _ _ v2 M2 ∧ w4.heap[D]? = _ ∧ w4.heap[E]? = _) := ⟨HO.out.1.1.keep b14, below_block b14 (block_lt HO.out.1.2.1) HO.out.1.2.1, below_block b14 (block_lt HO.out.1.2.2) HO.out.1.2.2⟩
          have kX := block_cells (below_block b34 (block_lt HX.out) HX.out)
          have kY := block_cells hY
          clear hw b4 hY eY b3 b34 b14 kE HCa HCb HB12 HX
          cases i1 with
          | false =>
            have HP := Lib.hid (preN_at o.l n.l.b n.l.es k HO.out.2 (fun h => by rw [HAT.out]; simp) hk)
            clear HO
            go_wp2_with fail
            go_meet
            case rel => exact ⟨by rw [HP.out], HS4.out⟩
          | true =>
            by_cases hey : x = e
            · subst hey
              have q := neq_ent_yes x
              have HO2 : Hid ((DrW w w4 A C _ _ v2 M2 ∧ w4.heap[D]? = _ ∧ w4.heap[E]? = _) ∧ ∀ j, (h : j < k + 1) → ∃ h' : j < n.l.es.length, atL o.l (n.l.b + (j : Int) + 1) = (n.l.es[j], true)) := ⟨HS4.out, fun j h => by
                rcases Nat.lt_or_ge j k with hj | hj
                · exact HO.out.2 j hj
                · obtain rfl : j = k := by omega
                  exact ⟨hlt, by rw [HAT.out, HE.out]⟩⟩
              clear HO HS4
              go_wp2_with fail
              go_roundw
              case rel => exact ⟨k + 1, by omega, by go_num, HO2⟩
              case measure => simp [intOf]; omega
            · have HP := Lib.hid (preN_at o.l n.l.b n.l.es k HO.out.2 (fun h => by rw [HAT.out, HE.out]; intro h2; injection h2 with h3; exact hey h3) hk)
              have q := neq_ent_no hey
              clear HO hey
              go_wp2_with fail
              go_meet
              case rel => exact ⟨by rw [HP.out], HS4.out⟩
        · obtain rfl : k = n.l.es.length := by omega
          have HBT : Hid (atL n.l (n.l.b + (n.l.es.length : Int) + 1) = (ent0, false)) := atL_high (by unfold Lg.last; omega) hb0
          have HP := Lib.hid (preN_at o.l n.l.b n.l.es n.l.es.length HO.out.2 (fun h => absurd h (Nat.lt_irrefl _)) hk)
          have HCb : Hid (∀ w', Below wk.heap.size wk w' → Calls Try.prog 49 #[.agg #[.int .i64 n.l.b, .int .i64 n.l.bt, .int .u16 n.l.j.ov, .int .u16 n.l.j.ox, .int .u16 n.l.j.ol, .int .i64 n.l.j.oe, .int .i64 n.l.j.ok, .int .u16 n.l.j.nv, .int .u16 n.l.j.nx, .int .u16 n.l.j.nl, .int .i64 n.l.j.ne, .int .i64 n.l.j.nk, .bool n.l.j.two, .slice pn n.l.es.length cn], .int .i64 (n.l.b + (n.l.es.length : Int) + 1)] w' fun r w'' => r = .returned (.tuple #[.agg #[.int .i64 ent0.t, .int .i64 ent0.k, .string ent0.d, .int .u16 ent0.j.ov, .int .u16 ent0.j.ox, .int .u16 ent0.j.ol, .int .i64 ent0.j.oe, .int .i64 ent0.j.ok, .int .u16 ent0.j.nv, .int .u16 ent0.j.nx, .int .u16 ent0.j.nl, .int .i64 ent0.j.ne, .int .i64 ent0.j.nk, .bool ent0.j.two], .bool false]) ∧ Below w'.heap.size w' w'') := fun w' h => rat_any n.l pn cn (n.l.b + (n.l.es.length : Int) + 1) w' HFN.out.b0 HFN.out.b1 HFN.out.n (by omega) (by omega) (HEN.out.keep (HO.out.1.1.keep h).b (Nat.le_refl _)) HBT
          go_wp2_with fail
          refine (HCa.out wk (Below.refl _ _)).mono ?_; rintro r0 w1 ⟨rfl, b1⟩
          go_upto_region 14 with fail
          obtain ⟨w2, hw⟩ : ∃ x' : World, w1.alloc (.cells #[.int .i64 x.t, .int .i64 x.k, .string x.d, .int .u16 x.j.ov, .int .u16 x.j.ox, .int .u16 x.j.ol, .int .i64 x.j.oe, .int .i64 x.j.ok, .int .u16 x.j.nv, .int .u16 x.j.nx, .int .u16 x.j.nl, .int .i64 x.j.ne, .int .i64 x.j.nk, .bool x.j.two] 85) = x' := ⟨_, rfl⟩
          have b2 : Below w1.heap.size w1 w2 := by rw [← hw]; exact (Below.refl _ _).alloc (Nat.le_refl _) _
          have hX : w2.heap[w1.heap.size]? = some (.cells #[.int .i64 x.t, .int .i64 x.k, .string x.d, .int .u16 x.j.ov, .int .u16 x.j.ox, .int .u16 x.j.ol, .int .i64 x.j.oe, .int .i64 x.j.ok, .int .u16 x.j.nv, .int .u16 x.j.nx, .int .u16 x.j.nl, .int .i64 x.j.ne, .int .i64 x.j.nk, .bool x.j.two] 85 (0, 0)) := by rw [← hw]; exact heap_last w1 _
          rw [hw]
          obtain ⟨X, eX⟩ : ∃ z, w1.heap.size = z := ⟨_, rfl⟩
          (try rw [eX])
          rw [eX] at hX
          have b12 := b1.trans (b2.mono b1.size)
          have HB12 := Lib.hid b12; have HX := Lib.hid hX
          clear hw b1 b2 eX b12 hX kD
          have kE := block_cells (below_block HB12.out (block_lt HO.out.1.2.2) HO.out.1.2.2)
          go_wp2_with fail
          refine (HCb.out w2 HB12.out).mono ?_; rintro r0 w3 ⟨rfl, b3⟩
          go_upto_region 15 with fail
          obtain ⟨w4, hw⟩ : ∃ x' : World, w3.alloc (.cells #[.int .i64 ent0.t, .int .i64 ent0.k, .string ent0.d, .int .u16 ent0.j.ov, .int .u16 ent0.j.ox, .int .u16 ent0.j.ol, .int .i64 ent0.j.oe, .int .i64 ent0.j.ok, .int .u16 ent0.j.nv, .int .u16 ent0.j.nx, .int .u16 ent0.j.nl, .int .i64 ent0.j.ne, .int .i64 ent0.j.nk, .bool ent0.j.two] 85) = x' := ⟨_, rfl⟩
          have b4 : Below w3.heap.size w3 w4 := by rw [← hw]; exact (Below.refl _ _).alloc (Nat.le_refl _) _
          have hY : w4.heap[w3.heap.size]? = some (.cells #[.int .i64 ent0.t, .int .i64 ent0.k, .string ent0.d, .int .u16 ent0.j.ov, .int .u16 ent0.j.ox, .int .u16 ent0.j.ol, .int .i64 ent0.j.oe, .int .i64 ent0.j.ok, .int .u16 ent0.j.nv, .int .u16 ent0.j.nx, .int .u16 ent0.j.nl, .int .i64 ent0.j.ne, .int .i64 ent0.j.nk, .bool ent0.j.two] 85 (0, 0)) := by rw [← hw]; exact heap_last w3 _
          rw [hw]
          obtain ⟨Y, eY⟩ : ∃ z, w3.heap.size = z := ⟨_, rfl⟩
          (try rw [eY])
          rw [eY] at hY
          have b34 := b3.trans (b4.mono b3.size)
          have b14 := HB12.out.trans (b34.mono HB12.out.size)
          have HS4 : Hid (DrW w w4 A C _ _ v2 M2 ∧ w4.heap[D]? = _ ∧ w4.heap[E]? = _) := ⟨HO.out.1.1.keep b14, below_block b14 (block_lt HO.out.1.2.1) HO.out.1.2.1, below_block b14 (block_lt HO.out.1.2.2) HO.out.1.2.2⟩
          have kX := block_cells (below_block b34 (block_lt HX.out) HX.out)
          have kY := block_cells hY
          clear hw b4 hY eY b3 b34 b14 kE HCa HCb HB12 HX
          cases i1 with
          | false =>
            clear HO
            go_wp2_with fail
            go_meet
            case rel => exact ⟨by rw [HP.out], HS4.out⟩
          | true =>
            clear HO
            go_wp2_with fail
            go_meet
            case rel => exact ⟨by rw [HP.out], HS4.out⟩
  obtain ⟨rfl, hst⟩ := hcut
  obtain ⟨W5, rfl⟩ : ∃ x : World, x = wc := ⟨_, rfl⟩
  have hKl := preN_le wl n.l.b n.l.es
  obtain ⟨K, hK0⟩ : ∃ x, preN wl n.l.b n.l.es = x := ⟨_, rfl⟩
  rw [hK0] at hKl ⊢
  have HKP := Lib.hid hK0
  have HCB : Hid (cutB o n = decide (n.l.b + (K : Int) < wl.last)) := by show _ = _; unfold cutB; rw [HWL.out, HKP.out]
  clear hK0 kE HS3
  go_upto_region 17 with fail
  go_cut [145] from 139 to 145 (fun c wx => c = .bool (cutB o n) ∧ Hid (DrW w wx A C #[.int .i64 o.id, .int .i64 o.role, .int .i64 o.tm, .int .i64 o.vt, .int .i64 o.ld, .int .i64 o.wt, .int .i64 o.cm, .int .i64 o.sf, .int .i64 o.l.b, .int .i64 o.l.bt, .int .u16 o.l.j.ov, .int .u16 o.l.j.ox, .int .u16 o.l.j.ol, .int .i64 o.l.j.oe, .int .i64 o.l.j.ok, .int .u16 o.l.j.nv, .int .u16 o.l.j.nx, .int .u16 o.l.j.nl, .int .i64 o.l.j.ne, .int .i64 o.l.j.nk, .bool o.l.j.two, .slice po o.l.es.length co, .string o.sn, .int .u16 o.vs, .int .u16 o.hd, .int .i64 (o.nx 0), .int .i64 (o.nx 1), .int .i64 (o.nx 2), .int .i64 (o.nx 3), .int .i64 (o.nx 4), .int .i64 (o.nx 5), .int .i64 (o.nx 6), .int .i64 (o.nx 7), .int .i64 (o.nx 8), .int .i64 (o.nx 9), .int .i64 (o.mt 0), .int .i64 (o.mt 1), .int .i64 (o.mt 2), .int .i64 (o.mt 3), .int .i64 (o.mt 4), .int .i64 (o.mt 5), .int .i64 (o.mt 6), .int .i64 (o.mt 7), .int .i64 (o.mt 8), .int .i64 (o.mt 9)] #[.int .i64 n.id, .int .i64 n.role, .int .i64 n.tm, .int .i64 n.vt, .int .i64 n.ld, .int .i64 n.wt, .int .i64 n.cm, .int .i64 n.sf, .int .i64 n.l.b, .int .i64 n.l.bt, .int .u16 n.l.j.ov, .int .u16 n.l.j.ox, .int .u16 n.l.j.ol, .int .i64 n.l.j.oe, .int .i64 n.l.j.ok, .int .u16 n.l.j.nv, .int .u16 n.l.j.nx, .int .u16 n.l.j.nl, .int .i64 n.l.j.ne, .int .i64 n.l.j.nk, .bool n.l.j.two, .slice pn n.l.es.length cn, .string n.sn, .int .u16 n.vs, .int .u16 n.hd, .int .i64 (n.nx 0), .int .i64 (n.nx 1), .int .i64 (n.nx 2), .int .i64 (n.nx 3), .int .i64 (n.nx 4), .int .i64 (n.nx 5), .int .i64 (n.nx 6), .int .i64 (n.nx 7), .int .i64 (n.nx 8), .int .i64 (n.nx 9), .int .i64 (n.mt 0), .int .i64 (n.mt 1), .int .i64 (n.mt 2), .int .i64 (n.mt 3), .int .i64 (n.mt 4), .int .i64 (n.mt 5), .int .i64 (n.mt 6), .int .i64 (n.mt 7), .int .i64 (n.mt 8), .int .i64 (n.mt 9)] v2 M2 ∧ wx.heap[D]? = some (.cells #[.int .i64 o.l.b, .int .i64 o.l.bt, .int .u16 o.l.j.ov, .int .u16 o.l.j.ox, .int .u16 o.l.j.ol, .int .i64 o.l.j.oe, .int .i64 o.l.j.ok, .int .u16 o.l.j.nv, .int .u16 o.l.j.nx, .int .u16 o.l.j.nl, .int .i64 o.l.j.ne, .int .i64 o.l.j.nk, .bool o.l.j.two, .slice po o.l.es.length co] 45 (0, 0)) ∧ wx.heap[E]? = some (.cells #[.int .i64 n.l.b, .int .i64 n.l.bt, .int .u16 n.l.j.ov, .int .u16 n.l.j.ox, .int .u16 n.l.j.ol, .int .i64 n.l.j.oe, .int .i64 n.l.j.ok, .int .u16 n.l.j.nv, .int .u16 n.l.j.nx, .int .u16 n.l.j.nl, .int .i64 n.l.j.ne, .int .i64 n.l.j.nk, .bool n.l.j.two, .slice pn n.l.es.length cn] 45 (0, 0))))
  case first =>
    cases ct with
    | false =>
      have e0 := HC0.out rfl
      have HX : Hid (cutB o n = false) := by show _ = _; rw [HCB.out, e0, decide_eq_false_iff_not]; unfold Lg.last; simp; omega
      clear e0
      go_wp2_with fail
      go_meet
      case rel => exact ⟨by rw [HX.out], hst.out⟩
    | true =>
      have e0 := HC1.out rfl
      have HX : Hid (cutB o n = decide (n.l.b + (K : Int) < o.l.last)) := by show _ = _; rw [HCB.out, e0]
      clear e0
      have kD := block_cells hst.out.2.1
      have HC := Lib.hid (rlast_any o.l po co W5 HFO.out.b0 HFO.out.b1 HFO.out.n)
      go_wp2_with fail
      refine HC.out.mono ?_; rintro r0 w6 ⟨rfl, b6⟩
      have HS6 : Hid (DrW w w6 A C _ _ v2 M2 ∧ w6.heap[D]? = _ ∧ w6.heap[E]? = _) := ⟨hst.out.1.keep b6, below_block b6 (block_lt hst.out.2.1) hst.out.2.1, below_block b6 (block_lt hst.out.2.2) hst.out.2.2⟩
      clear b6 kD HC
      go_wp2_with fail
      go_meet
      case rel => exact ⟨by rw [HX.out], HS6.out⟩
  obtain ⟨rfl, hst2⟩ := hcut
  obtain ⟨W6, rfl⟩ : ∃ x : World, x = wc := ⟨_, rfl⟩
  have HW6 := Lib.hid hst2.out.1; have HE6 := Lib.hid hst2.out.2.2
  clear hst hst2
  go_upto_if 145 with fail
  go_cut [7] from 145 to 153 (fun v wx => Hid ((∃ M, M = (if hardB o n = true then [recB 72 [r, n.tm, n.vt]] else []) ++ (if snapB o n = true then [recB 83 [r, n.l.b, n.l.bt] ++ encJo (joX n.l.j) ++ encT n.sn] else []) ++ (if cutB o n = true then [recB 88 [r, n.l.b + preN (wasL o n) n.l.b n.l.es]] else []) ∧ DrW w wx A C #[.int .i64 o.id, .int .i64 o.role, .int .i64 o.tm, .int .i64 o.vt, .int .i64 o.ld, .int .i64 o.wt, .int .i64 o.cm, .int .i64 o.sf, .int .i64 o.l.b, .int .i64 o.l.bt, .int .u16 o.l.j.ov, .int .u16 o.l.j.ox, .int .u16 o.l.j.ol, .int .i64 o.l.j.oe, .int .i64 o.l.j.ok, .int .u16 o.l.j.nv, .int .u16 o.l.j.nx, .int .u16 o.l.j.nl, .int .i64 o.l.j.ne, .int .i64 o.l.j.nk, .bool o.l.j.two, .slice po o.l.es.length co, .string o.sn, .int .u16 o.vs, .int .u16 o.hd, .int .i64 (o.nx 0), .int .i64 (o.nx 1), .int .i64 (o.nx 2), .int .i64 (o.nx 3), .int .i64 (o.nx 4), .int .i64 (o.nx 5), .int .i64 (o.nx 6), .int .i64 (o.nx 7), .int .i64 (o.nx 8), .int .i64 (o.nx 9), .int .i64 (o.mt 0), .int .i64 (o.mt 1), .int .i64 (o.mt 2), .int .i64 (o.mt 3), .int .i64 (o.mt 4), .int .i64 (o.mt 5), .int .i64 (o.mt 6), .int .i64 (o.mt 7), .int .i64 (o.mt 8), .int .i64 (o.mt 9)] #[.int .i64 n.id, .int .i64 n.role, .int .i64 n.tm, .int .i64 n.vt, .int .i64 n.ld, .int .i64 n.wt, .int .i64 n.cm, .int .i64 n.sf, .int .i64 n.l.b, .int .i64 n.l.bt, .int .u16 n.l.j.ov, .int .u16 n.l.j.ox, .int .u16 n.l.j.ol, .int .i64 n.l.j.oe, .int .i64 n.l.j.ok, .int .u16 n.l.j.nv, .int .u16 n.l.j.nx, .int .u16 n.l.j.nl, .int .i64 n.l.j.ne, .int .i64 n.l.j.nk, .bool n.l.j.two, .slice pn n.l.es.length cn, .string n.sn, .int .u16 n.vs, .int .u16 n.hd, .int .i64 (n.nx 0), .int .i64 (n.nx 1), .int .i64 (n.nx 2), .int .i64 (n.nx 3), .int .i64 (n.nx 4), .int .i64 (n.nx 5), .int .i64 (n.nx 6), .int .i64 (n.nx 7), .int .i64 (n.nx 8), .int .i64 (n.nx 9), .int .i64 (n.mt 0), .int .i64 (n.mt 1), .int .i64 (n.mt 2), .int .i64 (n.mt 3), .int .i64 (n.mt 4), .int .i64 (n.mt 5), .int .i64 (n.mt 6), .int .i64 (n.mt 7), .int .i64 (n.mt 8), .int .i64 (n.mt 9)] v M) ∧ wx.heap[E]? = some (.cells #[.int .i64 n.l.b, .int .i64 n.l.bt, .int .u16 n.l.j.ov, .int .u16 n.l.j.ox, .int .u16 n.l.j.ol, .int .i64 n.l.j.oe, .int .i64 n.l.j.ok, .int .u16 n.l.j.nv, .int .u16 n.l.j.nx, .int .u16 n.l.j.nl, .int .i64 n.l.j.ne, .int .i64 n.l.j.nk, .bool n.l.j.two, .slice pn n.l.es.length cn] 45 (0, 0))))
  case first =>
    cases hb : cutB o n with
    | true =>
      have HB := Lib.hid hb
      clear hb
      have bl : Below W6.heap.size W6 (W6.alloc (.cells #[.int .i64 r, .int .i64 (n.l.b + (K : Int))] 3)) := (Below.refl _ _).alloc (Nat.le_refl _) _
      have HC := Lib.hid (rrec_any 88 (some ⟨W6.heap.size, 0, none⟩) 2 [r, n.l.b + (K : Int)] (W6.alloc (.cells #[.int .i64 r, .int .i64 (n.l.b + (K : Int))] 3)) (nums_ofH (t := 3) (heap_last W6 _)) (fun y hy => by
        simp only [List.mem_cons, List.not_mem_nil, or_false] at hy
        rcases hy with rfl | rfl
        · exact HRI.out
        · unfold In64; omega) (by simp))
      have HW7 := Lib.hid (HW6.out.keep bl)
      have HE7 := Lib.hid (below_block bl (block_lt HE6.out) HE6.out)
      have hm1 : M2.length ≤ 2 := by
        have := congrArg List.length HM2.out
        rw [List.length_append] at this
        cases hh : hardB o n <;> cases hg : snapB o n <;> rw [hh, hg] at this <;> simp only [if_true, Bool.false_eq_true, if_false, List.length_cons, List.length_nil] at this <;> omega
      clear bl
      go_wp2_with fail
      refine HC.out.mono ?_; rintro e w1 ⟨v3, rfl, ho1, hb1⟩
      have HE8 := Lib.hid (below_block hb1 (block_lt HE7.out) HE7.out)
      have hcv := run_convert_sl (P := Try.prog) (Sl.of_own ho1) 32 5 Try.underlying32 Try.underlying5 9 Try.underlying9
      have hb0 := hb1
      have hbx : Below w1.heap.size w1 (w1.alloc (.cells #[.string (strOfNums (recB 88 [r, n.l.b + (K : Int)]))] 9)) := (Below.refl _ _).alloc (Nat.le_refl _) _
      have HWx := Lib.hid ((HW7.out.keep hb1).keep hbx)
      have HQx : Hid ((w1.alloc (.cells #[.string (strOfNums (recB 88 [r, n.l.b + (K : Int)]))] 9)).heap[w1.heap.size]? = some (.cells #[.string (strOfNums (recB 88 [r, n.l.b + (K : Int)]))] 9 (0, 0))) := heap_last w1 _
      have HEx := Lib.hid (below_block hbx (block_lt HE8.out) HE8.out)
      clear hb1 hbx
      go_wp2_with (at_builtin; go_loud (refine wpList_append_sl_at rfl _ _ 31 rfl w.heap.size 9 i0 (.string ⟨#[]⟩) 1 16 Try.underlying31 hi0 hz0 hz1 hz2 rfl (by decide) v2 M2.length (stR M2) rfl HWx.out.l _ _ 1 [.string (strOfNums (recB 88 [r, n.l.b + (K : Int)]))] rfl (sl_oneB HQx.out) (by intro u hu; rw [List.mem_singleton] at hu; rw [hu]; rfl) ?d1 ?d2 ?d3 ?_))
      case d1 => (try simp only [List.length_nil]); unfold maxLen; omega
      case d2 => (try simp only [List.length_nil]); omega
      case d3 => exact HWx.out.b.size
      intro vy wy h2 h3 h4
      have HW2 := Lib.hid (HWx.out.app h2 h3)
      have HEy := Lib.hid (blk_keep HEx.out HWx.out.l (by decide) h3)
      clear h2 h3 h4 HWx HQx hcv
      go_wp2_with fail
      go_meet
      case rel => exact ⟨⟨_, by rw [HM2.out, HB.out, HWL.out, HKP.out]; rfl, HW2.out⟩, HEy.out⟩
    | false =>
      have HB := Lib.hid hb
      clear hb
      go_wp2_with fail
      go_meet
      case rel => exact ⟨⟨M2, by rw [HM2.out, HB.out]; simp, HW6.out⟩, HE6.out⟩
  obtain ⟨v3, hv3⟩ : ∃ x, x = u7 := ⟨_, rfl⟩
  rw [← hv3] at hcut ⊢
  clear hv3
  obtain ⟨W7, rfl⟩ : ∃ x : World, x = wc := ⟨_, rfl⟩
  obtain ⟨⟨M3, hM3, hW7⟩, hE7⟩ := hcut.out
  have HM3 := Lib.hid hM3
  obtain ⟨L, hL⟩ : ∃ x, n.l.es.drop K = x := ⟨_, rfl⟩
  have HL := Lib.hid hL
  have hLn : L.length = n.l.es.length - K := by rw [← hL, List.length_drop]
  have hLn1 : L.length + K ≤ n.l.es.length := by omega
  have hLn2 : n.l.es.length ≤ L.length + K := by omega
  have HLm : Hid (∀ e ∈ L, In64 e.t ∧ In64 e.k ∧ JoF (joX e.j) ∧ e.d.size ≤ 1000000) := fun e he => HN.out.es e (by rw [← hL] at he; exact List.mem_of_mem_drop he)
  have HO : Hid ((∃ M, M = ((if hardB o n = true then [recB 72 [r, n.tm, n.vt]] else []) ++ (if snapB o n = true then [recB 83 [r, n.l.b, n.l.bt] ++ encJo (joX n.l.j) ++ encT n.sn] else []) ++ (if cutB o n = true then [recB 88 [r, n.l.b + preN (wasL o n) n.l.b n.l.es]] else [])) ++ entsB r (n.l.b + (K : Int) + 1) (L.take 0) ∧ DrW w W7 A C #[.int .i64 o.id, .int .i64 o.role, .int .i64 o.tm, .int .i64 o.vt, .int .i64 o.ld, .int .i64 o.wt, .int .i64 o.cm, .int .i64 o.sf, .int .i64 o.l.b, .int .i64 o.l.bt, .int .u16 o.l.j.ov, .int .u16 o.l.j.ox, .int .u16 o.l.j.ol, .int .i64 o.l.j.oe, .int .i64 o.l.j.ok, .int .u16 o.l.j.nv, .int .u16 o.l.j.nx, .int .u16 o.l.j.nl, .int .i64 o.l.j.ne, .int .i64 o.l.j.nk, .bool o.l.j.two, .slice po o.l.es.length co, .string o.sn, .int .u16 o.vs, .int .u16 o.hd, .int .i64 (o.nx 0), .int .i64 (o.nx 1), .int .i64 (o.nx 2), .int .i64 (o.nx 3), .int .i64 (o.nx 4), .int .i64 (o.nx 5), .int .i64 (o.nx 6), .int .i64 (o.nx 7), .int .i64 (o.nx 8), .int .i64 (o.nx 9), .int .i64 (o.mt 0), .int .i64 (o.mt 1), .int .i64 (o.mt 2), .int .i64 (o.mt 3), .int .i64 (o.mt 4), .int .i64 (o.mt 5), .int .i64 (o.mt 6), .int .i64 (o.mt 7), .int .i64 (o.mt 8), .int .i64 (o.mt 9)] #[.int .i64 n.id, .int .i64 n.role, .int .i64 n.tm, .int .i64 n.vt, .int .i64 n.ld, .int .i64 n.wt, .int .i64 n.cm, .int .i64 n.sf, .int .i64 n.l.b, .int .i64 n.l.bt, .int .u16 n.l.j.ov, .int .u16 n.l.j.ox, .int .u16 n.l.j.ol, .int .i64 n.l.j.oe, .int .i64 n.l.j.ok, .int .u16 n.l.j.nv, .int .u16 n.l.j.nx, .int .u16 n.l.j.nl, .int .i64 n.l.j.ne, .int .i64 n.l.j.nk, .bool n.l.j.two, .slice pn n.l.es.length cn, .string n.sn, .int .u16 n.vs, .int .u16 n.hd, .int .i64 (n.nx 0), .int .i64 (n.nx 1), .int .i64 (n.nx 2), .int .i64 (n.nx 3), .int .i64 (n.nx 4), .int .i64 (n.nx 5), .int .i64 (n.nx 6), .int .i64 (n.nx 7), .int .i64 (n.nx 8), .int .i64 (n.nx 9), .int .i64 (n.mt 0), .int .i64 (n.mt 1), .int .i64 (n.mt 2), .int .i64 (n.mt 3), .int .i64 (n.mt 4), .int .i64 (n.mt 5), .int .i64 (n.mt 6), .int .i64 (n.mt 7), .int .i64 (n.mt 8), .int .i64 (n.mt 9)] v3 M) ∧ W7.heap[E]? = some (.cells #[.int .i64 n.l.b, .int .i64 n.l.bt, .int .u16 n.l.j.ov, .int .u16 n.l.j.ox, .int .u16 n.l.j.ol, .int .i64 n.l.j.oe, .int .i64 n.l.j.ok, .int .u16 n.l.j.nv, .int .u16 n.l.j.nx, .int .u16 n.l.j.nl, .int .i64 n.l.j.ne, .int .i64 n.l.j.nk, .bool n.l.j.two, .slice pn n.l.es.length cn] 45 (0, 0))) := ⟨⟨M3, by rw [HM3.out]; simp [entsB], hW7⟩, hE7⟩
  have hw1 : wrap64 (n.l.b + (K : Int) + 1) = n.l.b + (K : Int) + 1 := by unfold wrap64; omega
  have HZ : Hid (n.l.b + (K : Int) + 1 = n.l.b + (K : Int) + 1 + ((0 : Nat) : Int)) := by show _ = _; omega
  clear hM3 hW7 hE7 hcut hL hLn HM2 HW6 HE6 HCB HM3
  go_wp2_with fail
  go_loopw [7, 19] (fun u i wr => ∃ k : Nat, k ≤ L.length ∧ i = .int .i64 (n.l.b + (K : Int) + 1 + (k : Int)) ∧ Hid ((∃ M, M = ((if hardB o n = true then [recB 72 [r, n.tm, n.vt]] else []) ++ (if snapB o n = true then [recB 83 [r, n.l.b, n.l.bt] ++ encJo (joX n.l.j) ++ encT n.sn] else []) ++ (if cutB o n = true then [recB 88 [r, n.l.b + preN (wasL o n) n.l.b n.l.es]] else [])) ++ entsB r (n.l.b + (K : Int) + 1) (L.take k) ∧ DrW w wr A C #[.int .i64 o.id, .int .i64 o.role, .int .i64 o.tm, .int .i64 o.vt, .int .i64 o.ld, .int .i64 o.wt, .int .i64 o.cm, .int .i64 o.sf, .int .i64 o.l.b, .int .i64 o.l.bt, .int .u16 o.l.j.ov, .int .u16 o.l.j.ox, .int .u16 o.l.j.ol, .int .i64 o.l.j.oe, .int .i64 o.l.j.ok, .int .u16 o.l.j.nv, .int .u16 o.l.j.nx, .int .u16 o.l.j.nl, .int .i64 o.l.j.ne, .int .i64 o.l.j.nk, .bool o.l.j.two, .slice po o.l.es.length co, .string o.sn, .int .u16 o.vs, .int .u16 o.hd, .int .i64 (o.nx 0), .int .i64 (o.nx 1), .int .i64 (o.nx 2), .int .i64 (o.nx 3), .int .i64 (o.nx 4), .int .i64 (o.nx 5), .int .i64 (o.nx 6), .int .i64 (o.nx 7), .int .i64 (o.nx 8), .int .i64 (o.nx 9), .int .i64 (o.mt 0), .int .i64 (o.mt 1), .int .i64 (o.mt 2), .int .i64 (o.mt 3), .int .i64 (o.mt 4), .int .i64 (o.mt 5), .int .i64 (o.mt 6), .int .i64 (o.mt 7), .int .i64 (o.mt 8), .int .i64 (o.mt 9)] #[.int .i64 n.id, .int .i64 n.role, .int .i64 n.tm, .int .i64 n.vt, .int .i64 n.ld, .int .i64 n.wt, .int .i64 n.cm, .int .i64 n.sf, .int .i64 n.l.b, .int .i64 n.l.bt, .int .u16 n.l.j.ov, .int .u16 n.l.j.ox, .int .u16 n.l.j.ol, .int .i64 n.l.j.oe, .int .i64 n.l.j.ok, .int .u16 n.l.j.nv, .int .u16 n.l.j.nx, .int .u16 n.l.j.nl, .int .i64 n.l.j.ne, .int .i64 n.l.j.nk, .bool n.l.j.two, .slice pn n.l.es.length cn, .string n.sn, .int .u16 n.vs, .int .u16 n.hd, .int .i64 (n.nx 0), .int .i64 (n.nx 1), .int .i64 (n.nx 2), .int .i64 (n.nx 3), .int .i64 (n.nx 4), .int .i64 (n.nx 5), .int .i64 (n.nx 6), .int .i64 (n.nx 7), .int .i64 (n.nx 8), .int .i64 (n.nx 9), .int .i64 (n.mt 0), .int .i64 (n.mt 1), .int .i64 (n.mt 2), .int .i64 (n.mt 3), .int .i64 (n.mt 4), .int .i64 (n.mt 5), .int .i64 (n.mt 6), .int .i64 (n.mt 7), .int .i64 (n.mt 8), .int .i64 (n.mt 9)] u M) ∧ wr.heap[E]? = some (.cells #[.int .i64 n.l.b, .int .i64 n.l.bt, .int .u16 n.l.j.ov, .int .u16 n.l.j.ox, .int .u16 n.l.j.ol, .int .i64 n.l.j.oe, .int .i64 n.l.j.ok, .int .u16 n.l.j.nv, .int .u16 n.l.j.nx, .int .u16 n.l.j.nl, .int .i64 n.l.j.ne, .int .i64 n.l.j.nk, .bool n.l.j.two, .slice pn n.l.es.length cn] 45 (0, 0)))) (fun _ i _ => (n.l.b + n.l.es.length + 1 - intOf i).toNat)
  case atStart => exact ⟨0, Nat.zero_le _, by rw [← HZ.out], HO⟩
  case round =>
    clear HO
    obtain ⟨k, hk, rfl, HO⟩ := hrel
    obtain ⟨wk, rfl⟩ : ∃ wk : World, wk = wr := ⟨_, rfl⟩
    obtain ⟨vk, rfl⟩ : ∃ vk : Value, vk = u7 := ⟨_, rfl⟩
    obtain ⟨⟨M, hM, hWk⟩, hEk⟩ := HO.out
    have HM := Lib.hid hM; have HWk := Lib.hid hWk; have HEk := Lib.hid hEk
    have hML : M.length ≤ 1000003 := by
      have := congrArg List.length hM
      rw [List.length_append, List.length_append, List.length_append, entsB_len, List.length_take] at this
      have hif : ∀ (b : Bool) (x : List Int), (if b = true then [x] else []).length ≤ 1 := fun b x => by cases b <;> simp
      have := hif (hardB o n) (recB 72 [r, n.tm, n.vt]); have := hif (snapB o n) (recB 83 [r, n.l.b, n.l.bt] ++ encJo (joX n.l.j) ++ encT n.sn); have := hif (cutB o n) (recB 88 [r, n.l.b + preN (wasL o n) n.l.b n.l.es])
      omega
    have hfl : n.l.last = n.l.b + n.l.es.length := rfl
    have HC0' := Lib.hid (rlast_any n.l pn cn wk HFN.out.b0 HFN.out.b1 HFN.out.n)
    rw [hfl] at HC0'
    have kE := block_cells hEk
    clear hM hWk hEk HO hfl
    by_cases hlt : k < L.length
    · have hd : decide (n.l.b + (K : Int) + 1 + (k : Int) ≤ n.l.b + (n.l.es.length : Int)) = true := by simp; omega
      have hle : n.l.b + (K : Int) + 1 + (k : Int) ≤ n.l.b + (n.l.es.length : Int) := by omega
      obtain ⟨e, he⟩ : ∃ e, L[k] = e := ⟨_, rfl⟩
      have HE := Lib.hid he
      have hef := HLm.out e (by rw [← he]; exact List.getElem_mem hlt)
      have HAT : Hid (atL n.l (n.l.b + (K : Int) + 1 + (k : Int)) = (e, true)) := by
        show _ = _
        rw [atL_in (k := K + k) (by omega) (by omega), ← he]
        have hLo := HL.out
        subst hLo
        rw [List.getElem_drop]
      clear he
      go_wp2_with fail
      refine HC0'.out.mono ?_; rintro r0 w1 ⟨rfl, b1⟩
      have HW1 := Lib.hid (HWk.out.keep b1)
      have HE1 := Lib.hid (below_block b1 (block_lt HEk.out) HEk.out)
      have HA1 := Lib.hid (rat_any n.l pn cn (n.l.b + (K : Int) + 1 + (k : Int)) w1 HFN.out.b0 HFN.out.b1 HFN.out.n (by omega) (by omega) (HEN.out.keep HW1.out.b (Nat.le_refl _)) HAT)
      clear b1 kE HC0' HWk HEk
      have kE := block_cells HE1.out
      go_wp2_with fail
      refine HA1.out.mono ?_; rintro r0 w2 ⟨rfl, b2⟩
      go_upto_region 23 with fail
      obtain ⟨w3, hw⟩ : ∃ x' : World, w2.alloc (.cells #[.int .i64 e.t, .int .i64 e.k, .string e.d, .int .u16 e.j.ov, .int .u16 e.j.ox, .int .u16 e.j.ol, .int .i64 e.j.oe, .int .i64 e.j.ok, .int .u16 e.j.nv, .int .u16 e.j.nx, .int .u16 e.j.nl, .int .i64 e.j.ne, .int .i64 e.j.nk, .bool e.j.two] 85) = x' := ⟨_, rfl⟩
      have b3 : Below w2.heap.size w2 w3 := by rw [← hw]; exact (Below.refl _ _).alloc (Nat.le_refl _) _
      have hX : w3.heap[w2.heap.size]? = some (.cells #[.int .i64 e.t, .int .i64 e.k, .string e.d, .int .u16 e.j.ov, .int .u16 e.j.ox, .int .u16 e.j.ol, .int .i64 e.j.oe, .int .i64 e.j.ok, .int .u16 e.j.nv, .int .u16 e.j.nx, .int .u16 e.j.nl, .int .i64 e.j.ne, .int .i64 e.j.nk, .bool e.j.two] 85 (0, 0)) := by rw [← hw]; exact heap_last w2 _
      rw [hw]
      obtain ⟨X, eX⟩ : ∃ z, w2.heap.size = z := ⟨_, rfl⟩
      (try rw [eX])
      rw [eX] at hX
      have kX := block_cells hX
      have b23 := b2.trans (b3.mono b2.size)
      have HW3 := Lib.hid (HW1.out.keep b23)
      have HE3 := Lib.hid (below_block b23 (block_lt HE1.out) HE1.out)
      have HC := Lib.hid (rhentry_any r (n.l.b + (K : Int) + 1 + (k : Int)) e w3 HRI.out (by unfold In64; omega) hef.1 hef.2.1 hef.2.2.1 hef.2.2.2)
      clear hw b2 b3 b23 hX eX kE HA1 HW1 HE1 hef
      go_wp2_with fail
      refine HC.out.mono ?_; rintro r0 w4 ⟨rfl, hb1⟩
      have HE8 := Lib.hid (below_block hb1 (block_lt HE3.out) HE3.out)
      clear kX HC
      have hbx : Below w4.heap.size w4 (w4.alloc (.cells #[.string (strOfNums (entB r (n.l.b + (K : Int) + 1 + (k : Int)) e))] 9)) := (Below.refl _ _).alloc (Nat.le_refl _) _
      have HWx := Lib.hid ((HW3.out.keep hb1).keep hbx)
      have HQx : Hid ((w4.alloc (.cells #[.string (strOfNums (entB r (n.l.b + (K : Int) + 1 + (k : Int)) e))] 9)).heap[w4.heap.size]? = some (.cells #[.string (strOfNums (entB r (n.l.b + (K : Int) + 1 + (k : Int)) e))] 9 (0, 0))) := heap_last w4 _
      have HEx := Lib.hid (below_block hbx (block_lt HE8.out) HE8.out)
      clear hb1 hbx
      go_wp2_with (at_builtin; go_loud (refine wpList_append_sl_at rfl _ _ 31 rfl w.heap.size 9 i0 (.string ⟨#[]⟩) 1 16 Try.underlying31 hi0 hz0 hz1 hz2 rfl (by decide) vk M.length (stR M) rfl HWx.out.l _ _ 1 [.string (strOfNums (entB r (n.l.b + (K : Int) + 1 + (k : Int)) e))] rfl (sl_oneB HQx.out) (by intro u hu; rw [List.mem_singleton] at hu; rw [hu]; rfl) ?d1 ?d2 ?d3 ?_))
      case d1 => (try simp only [List.length_nil]); unfold maxLen; omega
      case d2 => (try simp only [List.length_nil]); omega
      case d3 => exact HWx.out.b.size
      intro vy wy h2 h3 h4
      have HW2 := Lib.hid (HWx.out.app h2 h3)
      have HEy := Lib.hid (blk_keep HEx.out HWx.out.l (by decide) h3)
      clear h2 h3 h4 HWx HQx
      have HO2 : Hid ((∃ M, M = ((if hardB o n = true then [recB 72 [r, n.tm, n.vt]] else []) ++ (if snapB o n = true then [recB 83 [r, n.l.b, n.l.bt] ++ encJo (joX n.l.j) ++ encT n.sn] else []) ++ (if cutB o n = true then [recB 88 [r, n.l.b + preN (wasL o n) n.l.b n.l.es]] else [])) ++ entsB r (n.l.b + (K : Int) + 1) (L.take (k + 1)) ∧ DrW w wy A C _ _ vy M) ∧ wy.heap[E]? = _) := ⟨⟨_, by rw [HM.out, entsB_next r _ L hlt, HE.out, ← List.append_assoc], HW2.out⟩, HEy.out⟩
      have hw2 : wrap64 (n.l.b + (K : Int) + 1 + (k : Int) + 1) = n.l.b + (K : Int) + 1 + (k : Int) + 1 := by unfold wrap64; omega
      clear HM HW2 HEy HE8 HE3
      go_wp2_with fail
      go_roundw
      case rel => exact ⟨k + 1, by omega, by go_num, HO2⟩
      case measure => simp [intOf]; omega
    · obtain rfl : k = L.length := by omega
      have hd : decide (n.l.b + (K : Int) + 1 + (L.length : Int) ≤ n.l.b + (n.l.es.length : Int)) = false := by simp; omega
      have hle : n.l.b + (n.l.es.length : Int) < n.l.b + (K : Int) + 1 + (L.length : Int) := by omega
      go_wp2_with fail
      refine HC0'.out.mono ?_; rintro r0 w1 ⟨rfl, b1⟩
      have HW1 := Lib.hid (HWk.out.keep b1)
      have HD1 : Hid (diffB r o n = M) := by
        show _ = _
        rw [HM.out, List.take_of_length_le (Nat.le_refl _), ← HL.out]; unfold diffB; rw [HWL.out, HKP.out]
      clear b1 kE HC0' HWk HEk HM
      go_wp2_with fail
      exact HQ.out _ _ vk rfl rfl (by rw [HD1.out]; exact HW1.out.l) HW1.out.b
end Go.Proofs.Ytjaabakobpabjaa
