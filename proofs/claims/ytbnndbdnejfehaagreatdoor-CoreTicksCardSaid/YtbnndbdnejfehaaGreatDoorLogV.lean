import Derived.Test.YtbnndbdnejfehaaGreatDoorHardA
import Derived.Test.YtbnndbdnejfehaaGreatDoorLogR
import Derived.Deep.CutBlock
import Derived.Test.YtbnndbdnejfehaaGreatDoorWireT
import Derived.Test.YtbnndbdnejfehaaGreatDoorLogU
/- Hard: lists of records; what must be written that a core becomes another one. -/
namespace Go.Proofs.YtbnndbdnejfehaaGreatDoor
open Go.ChangeShapes Go.WideShapes Go.ChangeAt Go.RowKit

theorem wp_append_row {P : Program} {w : World} {o : Oper} {a : Act} {K : Act → World → Prop} {Q : Exit → Act → World → Prop} (s x : Operand) (t : TypeId)
    (ho : o.op = .call { callee := .builtin .append, args := #[s, x], argTypes := #[t, t] })
    (base : Nat) (e : TypeId) (i : TypeInfo) (z : Value) (size bytes : Nat) (ht : P.underlying t = some (.slice e)) (hi : P.info? e = some i) (hz : i.zero = some z)
    (hsize : i.size = size) (hby : i.bytes = bytes) (hzs : z.cells.size = size) (hsz : 0 < size)
    (v : Value) (n : Nat) (xs : List Value) (hs : a.eval s = v) (hown : w.ownsRow base e size v n xs)
    (B : Nat) (u : Value) (m : Nat) (news : List Value) (hx : a.eval x = u) (hsl : Sl B w u size m news) (hm : 0 < m) (h1 : ∀ u ∈ news, u.oneCell' = true)
    (h63 : n + m ≤ maxLen) (hbytes : (n + m) * bytes ≤ 140737488355328) (hbase : base ≤ w.heap.size)
    (h : ∀ v' w', w'.ownsRow base e size v' (n + m) (xs ++ news) → w.grownBy w' v.ownBlock → (v'.ownBlock = v.ownBlock ∨ v'.ownBlock = some w.heap.size) → K (a.put o.dst v') w') : Oper.wp P o a w K Q := by
  obtain ⟨hl, hc⟩ := hsl
  rcases hc with ⟨rfl, rfl⟩ | ⟨ad, cap, rfl, _, _, hcell⟩
  · omega
  · obtain ⟨v', w', hr, h2, h3, -, h5⟩ := run_append_own_at (P := P) w base t o.type e i z size bytes ht hi hz hsize hby hzs hsz v n xs hown ad m cap news hl (fun j u hu => by
      have hj : j < m * size := by rw [← hl]; exact (List.getElem?_eq_some_iff.1 hu).1
      obtain ⟨g, off, rfl, _, hcell⟩ := hcell hm
      have hadd : (⟨g, off, none⟩ : Addr).add j = ⟨g, off + j, none⟩ := by unfold Addr.add; split <;> simp_all
      rw [hadd, hcell j hj]; exact hu) h1 h63 hbytes hbase
    unfold Oper.wp execOp
    simp only [ho, resolve, invoke, builtin, Sem.run_bind, Sem.run_pure, Result.andThen_ok, List.map_toArray, List.map_cons, List.map_nil, hs, hx, hr]
    exact h v' w' h2 h3 h5
theorem own_apartH {w : World} {b1 b2 : Nat} {e1 e2 : TypeId} {s1 s2 n1 n2 : Nat} {v1 v2 : Value} {xs1 xs2 : List Value} (h1 : w.ownsRow b1 e1 s1 v1 n1 xs1) (h2 : w.ownsRow b2 e2 s2 v2 n2 xs2) (he : e1 ≠ e2) : v1.ownBlock = none ∨ v1.ownBlock ≠ v2.ownBlock := by
  rcases h1.2 with ⟨rfl, -⟩ | ⟨g1, c1, cur1, rfl, -, q1, -⟩
  · exact .inl rfl
  · refine .inr fun h => ?_
    rcases h2.2 with ⟨rfl, -⟩ | ⟨g2, c2, cur2, rfl, -, q2, -⟩
    · simp [Value.ownBlock] at h
    · simp only [Value.ownBlock, Option.some.injEq] at h
      subst h
      rw [q1] at q2
      simp only [Option.some.injEq, Obj.cells.injEq] at q2
      exact he q2.2.1
/-- What can be written of a core. -/
structure CoF (n : Co) : Prop where
  tm : In64 n.tm
  vt : In64 n.vt
  bt : In64 n.l.bt
  j : JoF (joX n.l.j)
  sn : n.sn.size ≤ 1000000
  es : ∀ e ∈ n.l.es, In64 e.t ∧ In64 e.k ∧ JoF (joX e.j) ∧ e.d.size ≤ 1000000
end Go.Proofs.YtbnndbdnejfehaaGreatDoor
/- Hard: the reference's Diff. -/
namespace Go.Proofs.YtbnndbdnejfehaaGreatDoor
open Go.ChangeShapes Go.WideShapes Go.ChangeAt Go.RowKit

def stR (L : List (List Int)) : List Value := L.map fun l => .string (strOfNums l)
structure DrW (w0 w : World) (A C : Nat) (ca cc : Array Value) (v : Value) (M : List (List Int)) : Prop where
  b : Below w0.heap.size w0 w
  a : w.heap[A]? = some (.cells ca 33 (0, 0))
  c : w.heap[C]? = some (.cells cc 33 (0, 0))
  l : w.ownsRow w0.heap.size 9 1 v M.length (stR M)
theorem DrW.keep {w0 w w' : World} {A C : Nat} {ca cc : Array Value} {v : Value} {M : List (List Int)} (h : DrW w0 w A C ca cc v M) (hb : Below w.heap.size w w') : DrW w0 w' A C ca cc v M :=
  ⟨h.b.trans (hb.mono h.b.size), below_block hb (block_lt h.a) h.a, below_block hb (block_lt h.c) h.c, own_keptH h.l hb⟩
end Go.Proofs.YtbnndbdnejfehaaGreatDoor
/- Hard: records of both, compared. -/
namespace Go.Proofs.YtbnndbdnejfehaaGreatDoor
open Go.ChangeShapes Go.WideShapes Go.ChangeAt Go.RowKit

theorem own_formH {w : World} {base : Nat} {e : TypeId} {size n : Nat} {v : Value} {xs : List Value} (h : w.ownsRow base e size v n xs) : ∃ p c, v = .slice p n c := by
  rcases h.2 with ⟨rfl, rfl⟩ | ⟨g, cap, cur, rfl, -⟩
  · exact ⟨_, _, rfl⟩
  · exact ⟨_, _, rfl⟩
end Go.Proofs.YtbnndbdnejfehaaGreatDoor
/- Core: an act in memory: its core, its log's entries, its messages; what a step leaves. -/
namespace Go.Proofs.YtbnndbdnejfehaaGreatDoor
open Go.ChangeShapes Go.WideShapes Go.ChangeAt Go.RowKit

/-- A message, and where its entries lie. -/
structure MsX where
  m : Ms
  p : Option Addr
  k : Nat
def msC (m : Ms) (p : Option Addr) (k : Nat) : List Value := [.int .i64 m.k, .int .i64 m.fr, .int .i64 m.dst, .int .i64 m.tm, .int .i64 m.ix, .int .i64 m.lt, .int .i64 m.cm, .int .i64 m.sf, .bool m.yes, .slice p m.es.length k, .string m.sn, .int .u16 m.cf.ov, .int .u16 m.cf.ox, .int .u16 m.cf.ol, .int .i64 m.cf.oe, .int .i64 m.cf.ok, .int .u16 m.cf.nv, .int .u16 m.cf.nx, .int .u16 m.cf.nl, .int .i64 m.cf.ne, .int .i64 m.cf.nk, .bool m.cf.two]
abbrev MsX.v (x : MsX) : List Value := msC x.m x.p x.k
def msRow (l : List MsX) : List Value := l.flatMap MsX.v
theorem msRow_app (l : List MsX) (x : MsX) : msRow (l ++ [x]) = msRow l ++ x.v := by simp [msRow]
theorem msRow_get {l : List MsX} {n j : Nat} (hn : n < l.length) (hj : j < 22) : (msRow l)[n * 22 + j]? = l[n].v[j]? := by
  induction l generalizing n with
  | nil => simp at hn
  | cons x t ih =>
    rw [msRow, List.flatMap_cons, ← msRow]
    cases n with
    | zero => rw [Nat.zero_mul, Nat.zero_add, List.getElem?_append_left (by show j < 22; exact hj)]; rfl
    | succ n =>
      rw [List.getElem?_append_right (by show 22 ≤ _; omega), show (n + 1) * 22 + j - x.v.length = n * 22 + j by (show (n + 1) * 22 + j - 22 = _; omega), ih (by simpa using hn)]
      rfl
/-- A message's entries lie in a row of the call's own. -/
def MsOwn (B : Nat) (w : World) (x : MsX) : Prop := w.ownsRow B 47 14 (.slice x.p x.m.es.length x.k) x.m.es.length (entRow x.m.es)
/-- Messages in rows of the call's own. -/
structure MsAt (B : Nat) (w : World) (v : Value) (l : List MsX) : Prop where
  own : w.ownsRow B 39 22 v l.length (msRow l)
  en : ∀ x ∈ l, MsOwn B w x
theorem MsAt.nil (B : Nat) (w : World) : MsAt B w (.slice none 0 0) [] := ⟨⟨rfl, .inl ⟨rfl, rfl⟩⟩, fun x hx => absurd hx (by simp)⟩
theorem MsAt.keep {B : Nat} {w w' : World} {v : Value} {l : List MsX} (h : MsAt B w v l) (hb : Below w.heap.size w w') : MsAt B w' v l := ⟨own_keptC h.own hb, fun x hx => own_keptC (h.en x hx) hb⟩
theorem MsAt.mono {B B' : Nat} {w : World} {v : Value} {l : List MsX} (h : MsAt B w v l) (hb : B' ≤ B) : MsAt B' w v l := ⟨h.own.mono hb, fun x hx => (h.en x hx).mono hb⟩
/-- Another block's writing leaves them. -/
theorem MsAt.grown {B : Nat} {w w' : World} {v : Value} {l : List MsX} (h : MsAt B w v l) {R : Nat} {cs : Array Value} {t : TypeId} (hq : w.heap[R]? = some (.cells cs t (0, 0))) (h1 : t ≠ 39) (h2 : t ≠ 47) (hg : w.grownBy w' (some R)) : MsAt B w' v l :=
  ⟨h.own.kept hg (own_other h.own hq h1), fun x hx => (h.en x hx).kept hg (own_other (h.en x hx) hq h2)⟩
/-- The entries' blocks of a core, of a message. -/
def CoX.bk (x : CoX) : Option Nat := (Value.slice x.p x.c.l.es.length x.k).ownBlock
def MsX.bk (x : MsX) : Option Nat := (Value.slice x.p x.m.es.length x.k).ownBlock
/-- An act in memory. -/
structure AcW (T : TypeId) (B : Nat) (w : World) (R : Nat) (x : CoX) (v : Value) (l : List MsX) : Prop where
  le : B ≤ R
  blk : w.heap[R]? = some (.cells (x.v ++ [v]).toArray T (0, 0))
  ne : T ≠ 47 ∧ T ≠ 39
  en : CoOwn B w x
  out : MsAt B w v l
  sep : ∀ y ∈ l, ∀ b, y.bk = some b → x.bk ≠ some b
theorem AcW.lt {T : TypeId} {B R : Nat} {w : World} {x : CoX} {v : Value} {l : List MsX} (h : AcW T B w R x v l) : R < w.heap.size := block_lt h.blk
theorem AcW.keep {T : TypeId} {B R : Nat} {w w' : World} {x : CoX} {v : Value} {l : List MsX} (h : AcW T B w R x v l) (hb : Below w.heap.size w w') : AcW T B w' R x v l :=
  ⟨h.le, below_block hb h.lt h.blk, h.ne, own_keptC h.en hb, h.out.keep hb, h.sep⟩
/-- What a step leaves: only the act's block and its messages' row are written over. -/
structure AcR (w w' : World) (R : Nat) (v v' : Value) : Prop where
  os : w'.os = w.os
  tape : w'.tape = w.tape
  output : w'.output = w.output
  size : w.heap.size ≤ w'.heap.size
  oth : ∀ b, b < w.heap.size → b ≠ R → v.ownBlock ≠ some b → w'.heap[b]? = w.heap[b]? ∧ v'.ownBlock ≠ some b
theorem AcR.refl (w : World) (R : Nat) (v : Value) : AcR w w R v v := ⟨rfl, rfl, rfl, Nat.le_refl _, fun _ _ _ h => ⟨rfl, h⟩⟩
theorem AcR.trans {w w1 w2 : World} {R : Nat} {v v1 v2 : Value} (h : AcR w w1 R v v1) (k : AcR w1 w2 R v1 v2) : AcR w w2 R v v2 :=
  ⟨k.os.trans h.os, k.tape.trans h.tape, k.output.trans h.output, Nat.le_trans h.size k.size, fun b hb hR hv => by
    obtain ⟨h1, h2⟩ := h.oth b hb hR hv
    obtain ⟨k1, k2⟩ := k.oth b (Nat.lt_of_lt_of_le hb h.size) hR h2
    exact ⟨k1.trans h1, k2⟩⟩
theorem AcR.below {w w' : World} {R : Nat} {v : Value} (h : Below w.heap.size w w') : AcR w w' R v v := ⟨h.os, h.tape, h.output, h.size, fun b hb _ hv => ⟨h.block b hb, hv⟩⟩
theorem AcR.grown {w w' : World} {R : Nat} {v : Value} (h : w.grownBy w' (some R)) : AcR w w' R v v := ⟨h.os, h.tape, h.output, h.size, fun b hb hR hv => ⟨h.block b hb (fun e => hR (by simpa using e)), hv⟩⟩
theorem AcR.row {w w' : World} {R : Nat} {v v' : Value} (h : w.grownBy w' v.ownBlock) (hv : v'.ownBlock = v.ownBlock ∨ ∃ b, v'.ownBlock = some b ∧ w.heap.size ≤ b) : AcR w w' R v v' := ⟨h.os, h.tape, h.output, h.size, fun b hb _ hn => ⟨h.block b hb (fun e => hn e.symm), by
    rcases hv with e | ⟨c, e, hc⟩
    · rw [e]; exact hn
    · rw [e]; intro e2; simp only [Option.some.injEq] at e2; omega⟩⟩
/-- Another block stays. -/
theorem AcR.blk {w w' : World} {R : Nat} {v v' : Value} (h : AcR w w' R v v') {X : Nat} {o : Obj} (hX : w.heap[X]? = some o) (hR : X ≠ R) (hv : v.ownBlock ≠ some X) : w'.heap[X]? = some o ∧ v'.ownBlock ≠ some X := by
  obtain ⟨h1, h2⟩ := h.oth X (block_lt hX) hR hv
  exact ⟨h1.trans hX, h2⟩
theorem AcR.base {w w' : World} {B R : Nat} {v v' : Value} (h : AcR w w' R v v') (hB : B ≤ R) (hv : ∀ b, v.ownBlock = some b → B ≤ b) (hs : B ≤ w.heap.size) : Below B w w' :=
  ⟨h.os, h.tape, h.output, h.size, fun b hb => (h.oth b (by omega) (by omega) (fun e => by have := hv b e; omega)).1⟩
theorem AcW.vge {T : TypeId} {B R : Nat} {w : World} {x : CoX} {v : Value} {l : List MsX} (h : AcW T B w R x v l) : ∀ b, v.ownBlock = some b → B ≤ b ∧ b < w.heap.size := fun b hb => h.out.own.lt b hb
theorem AcW.below {T : TypeId} {B R : Nat} {w w' : World} {x : CoX} {v v' : Value} {l : List MsX} (h : AcW T B w R x v l) (hr : AcR w w' R v v') : Below B w w' := hr.base h.le (fun b hb => (h.vge b hb).1) (by have := h.le; have := h.lt; omega)
theorem AcW.vR {T : TypeId} {B R : Nat} {w : World} {x : CoX} {v : Value} {l : List MsX} (h : AcW T B w R x v l) : v.ownBlock ≠ some R := fun e => by
  rcases own_other h.out.own h.blk h.ne.2 with h1 | h1
  · rw [h1] at e; cases e
  · exact h1 e
/-- Some cells of the act's core are stored. -/
theorem act_setL {x : CoX} {v : Value} (vs : List Value) (j : Nat) (hj : j + vs.length ≤ 45) : setL (x.v ++ [v]) j vs = setL x.v j vs ++ [v] := by
  have h : ∀ (vs : List Value) (xs : List Value) (j : Nat), j + vs.length ≤ xs.length → setL (xs ++ [v]) j vs = setL xs j vs ++ [v] := by
    intro vs
    induction vs with
    | nil => intro xs j _; rfl
    | cons u r ih =>
      intro xs j hj
      rw [List.length_cons] at hj
      rw [setL, setL, List.set_append_left _ _ (by omega), ih _ _ (by rw [List.length_set]; omega)]
  exact h vs x.v j (by show j + vs.length ≤ 45; exact hj)
theorem AcW.puts {T : TypeId} {B R : Nat} {w : World} {x : CoX} {v : Value} {l : List MsX} (h : AcW T B w R x v l) (j : Nat) (vs : List Value) (hj : j + vs.length ≤ 45) (y : CoX) (hy : y.v = setL x.v j vs) (he : CoOwn B w y) (hs : ∀ z ∈ l, ∀ b, z.bk = some b → y.bk ≠ some b) :
    AcW T B (w.setCells R j vs) R y v l ∧ AcR w (w.setCells R j vs) R v v := by
  have h1 : (w.setCells R j vs).heap[R]? = some (.cells (setL (x.v ++ [v]) j vs).toArray T (0, 0)) := (block_setCells vs j h.blk).1
  have h2 := (block_setCells vs j h.blk).2
  rw [act_setL vs j hj, ← hy] at h1
  exact ⟨⟨h.le, h1, h.ne, he.kept h2 (own_other he h.blk h.ne.1), h.out.grown h.blk h.ne.2 h.ne.1 h2, hs⟩, AcR.grown h2⟩
/-- One cell of its core, its entries as they were. -/
theorem AcW.put {T : TypeId} {B R : Nat} {w : World} {x : CoX} {v : Value} {l : List MsX} (h : AcW T B w R x v l) (j : Nat) (u : Value) (hj : j < 45) (y : CoX) (hy : y.v = x.v.set j u) (hl : y.c.l.es = x.c.l.es) (hp : y.p = x.p) (hk : y.k = x.k) :
    AcW T B (w.setCell ⟨R, j, none⟩ u) R y v l ∧ AcR w (w.setCell ⟨R, j, none⟩ u) R v v := by
  refine h.puts j [u] (by simp only [List.length_singleton]; omega) y (by rw [hy]; rfl) ?_ ?_
  · have := h.en; unfold CoOwn at this ⊢; rw [hl, hp, hk]; exact this
  · intro z hz b hb; have := h.sep z hz b hb; unfold CoX.bk at this ⊢; rw [hl, hp, hk]; exact this
/-- Its messages' slice is stored. -/
theorem AcW.outs {T : TypeId} {B R : Nat} {w : World} {x : CoX} {v v' : Value} {l' : List MsX} (hR : w.heap[R]? = some (.cells (x.v ++ [v]).toArray T (0, 0))) (hle : B ≤ R) (ne : T ≠ 47 ∧ T ≠ 39) (he : CoOwn B w x) (ho : MsAt B w v' l') (hs : ∀ y ∈ l', ∀ b, y.bk = some b → x.bk ≠ some b) :
    AcW T B (w.setCell ⟨R, 45, none⟩ v') R x v' l' ∧ w.grownBy (w.setCell ⟨R, 45, none⟩ v') (some R) := by
  have h1 := cells_setW hR 45 v'
  have h2 := grown_setW w R 45 v'
  exact ⟨⟨hle, h1, ne, he.kept h2 (own_other he hR ne.1), ho.grown hR ne.2 ne.1 h2, hs⟩, h2⟩
end Go.Proofs.YtbnndbdnejfehaaGreatDoor
/- The reference of entries: Conf. -/
namespace Go.Proofs.YtbnndbdnejfehaaGreatDoor
open Go.ChangeShapes Go.WideShapes Go.ChangeAt Go.RowKit

set_option maxRecDepth 100000 in
set_option maxHeartbeats 4000000 in
theorem rconf_any (l : Lg) (p : Option Addr) (c : Nat) (w : World) (hF : LgFit l) (hE : EnSl w (.slice p l.es.length c) l.es) :
    Calls Tryz.prog 108 #[.agg #[.int .i64 l.b, .int .i64 l.bt, .int .u16 l.j.ov, .int .u16 l.j.ox, .int .u16 l.j.ol, .int .i64 l.j.oe, .int .i64 l.j.ok, .int .u16 l.j.nv, .int .u16 l.j.nx, .int .u16 l.j.nl, .int .i64 l.j.ne, .int .i64 l.j.nk, .bool l.j.two, .slice p l.es.length c]] w fun r w' => r = .returned (.agg #[.int .u16 (confL l).ov, .int .u16 (confL l).ox, .int .u16 (confL l).ol, .int .i64 (confL l).oe, .int .i64 (confL l).ok, .int .u16 (confL l).nv, .int .u16 (confL l).nx, .int .u16 (confL l).nl, .int .i64 (confL l).ne, .int .i64 (confL l).nk, .bool (confL l).two]) ∧ Below w.heap.size w w' := by
  obtain ⟨⟨j, X⟩, hJ⟩ : ∃ x, confA l l.es.length = x := ⟨_, rfl⟩
  have hj : confL l = j := by rw [← confA_all, hJ]
  rw [hj]
  have HF : Hid (LgFit l) := hF
  have HE := Lib.hid hE
  have HJ := Lib.hid hJ
  clear hF hE hJ hj
  go_enter Tryz.func108, Tryz.ntmps108
  go_upto_region 1 with fail
  obtain ⟨W0, hW0⟩ : ∃ W0, w.alloc (.cells #[.int .i64 l.b, .int .i64 l.bt, .int .u16 l.j.ov, .int .u16 l.j.ox, .int .u16 l.j.ol, .int .i64 l.j.oe, .int .i64 l.j.ok, .int .u16 l.j.nv, .int .u16 l.j.nx, .int .u16 l.j.nl, .int .i64 l.j.ne, .int .i64 l.j.nk, .bool l.j.two, .slice p l.es.length c] 30) = W0 := ⟨_, rfl⟩
  obtain ⟨W, hW⟩ : ∃ W, W0.alloc (.cells #[.int .u16 0, .int .u16 0, .int .u16 0, .int .i64 0, .int .i64 0, .int .u16 0, .int .u16 0, .int .u16 0, .int .i64 0, .int .i64 0, .bool false] 27) = W := ⟨_, rfl⟩
  have hs0 : W0.heap.size = w.heap.size + 1 := by rw [← hW0]; simp
  have LL := Lib.hid ((Lies.new HE.out hW0).keep (below_new _ _ hW))
  have hZ : W.heap[w.heap.size + 1]? = some (.cells #[.int .u16 0, .int .u16 0, .int .u16 0, .int .i64 0, .int .i64 0, .int .u16 0, .int .u16 0, .int .u16 0, .int .i64 0, .int .i64 0, .bool false] 27 (0, 0)) := by rw [← hW, ← hs0]; exact heap_last _ _
  have HZ := Lib.hid hZ
  have HBW : Hid (Below w.heap.size w W) := (below_new _ _ hW0).trans ((below_new _ _ hW).mono (below_new _ _ hW0).size)
  rw [hW0, hW]
  clear hW hW0 hs0 hZ
  obtain ⟨A, eA⟩ : ∃ A, w.heap.size = A := ⟨_, rfl⟩
  rw [eA] at LL HZ ⊢
  have HEA : Hid (w.heap.size = A) := eA
  clear eA
  have kA := LL.out.cell
  have HC := Lib.hid (rconfAt_any l p c W HF.out LL.out.e HJ.out)
  go_wp2_with fail
  refine HC.out.mono ?_; rintro r w5 ⟨rfl, hb5⟩
  have HZ5 := Lib.hid (below_block hb5 (block_lt HZ.out) HZ.out)
  have HB5 := Lib.hid (HBW.out.trans (hb5.mono HBW.out.size))
  clear hb5 HC kA
  go_upto_region 2 with fail
  obtain ⟨W6, hW6⟩ : ∃ W6, w5.alloc (.cells #[.int .u16 j.ov, .int .u16 j.ox, .int .u16 j.ol, .int .i64 j.oe, .int .i64 j.ok, .int .u16 j.nv, .int .u16 j.nx, .int .u16 j.nl, .int .i64 j.ne, .int .i64 j.nk, .bool j.two] 27) = W6 := ⟨_, rfl⟩
  have hT : W6.heap[w5.heap.size]? = some (.cells #[.int .u16 j.ov, .int .u16 j.ox, .int .u16 j.ol, .int .i64 j.oe, .int .i64 j.ok, .int .u16 j.nv, .int .u16 j.nx, .int .u16 j.nl, .int .i64 j.ne, .int .i64 j.nk, .bool j.two] 27 (0, 0)) := by rw [← hW6]; exact heap_last _ _
  have hz := below_block (below_new _ _ hW6) (block_lt HZ5.out) HZ5.out
  have HB6 := Lib.hid (HB5.out.trans ((below_new _ _ hW6).mono HB5.out.size))
  have HZ6 := Lib.hid hz
  rw [hW6]
  obtain ⟨F, eF⟩ : ∃ D, w5.heap.size = D := ⟨_, rfl⟩
  rw [eF] at hT ⊢
  have kT := block_cells hT
  have kZ := block_cells hz
  have fZ := block_free hz
  clear hW6 eF hT hz
  go_wp2_with fail
  have F := putJ_ok HZ6.out (.int .u16 j.ov) (.int .u16 j.ox) (.int .u16 j.ol) (.int .i64 j.oe) (.int .i64 j.ok) (.int .u16 j.nv) (.int .u16 j.nx) (.int .u16 j.nl) (.int .i64 j.ne) (.int .i64 j.nk) (.bool j.two)
  have HBF := below_grown HB6.out F.2 HB6.out.size (by rw [HEA.out]; omega)
  obtain ⟨W4, hW4⟩ : ∃ W4, putJ W6 (A + 1) (.int .u16 j.ov) (.int .u16 j.ox) (.int .u16 j.ol) (.int .i64 j.oe) (.int .i64 j.ok) (.int .u16 j.nv) (.int .u16 j.nx) (.int .u16 j.nl) (.int .i64 j.ne) (.int .i64 j.nk) (.bool j.two) = W4 := ⟨_, rfl⟩
  rw [hW4] at F HBF
  have kF := block_cells F.1
  unfold putJ at hW4
  rw [hW4]
  clear hW4 F
  refine bodyPost_ret (v := .agg #[.int .u16 j.ov, .int .u16 j.ox, .int .u16 j.ol, .int .i64 j.oe, .int .i64 j.ok, .int .u16 j.nv, .int .u16 j.nx, .int .u16 j.nl, .int .i64 j.ne, .int .i64 j.nk, .bool j.two]) ?_ rfl ⟨rfl, HBF⟩
  simp [results, Tryz.results108, go_sem, kF]
end Go.Proofs.YtbnndbdnejfehaaGreatDoor
