/- Hard: lists of records; what must be written that a core becomes another one. -/
import Derived.Test.YtjaabakobpabjaaHardA
import Derived.Test.YtjaabakobpabjaaLogR
import Derived.Deep.CutBlock
namespace Go.Proofs.Ytjaabakobpabjaa
open Go.ChangeShapes Go.WideShapes Go.ChangeAt Go.RowKit

theorem Try.infoBs : (Try.prog.info? 32).map (fun i => (i.zero, i.size, i.bytes)) = some (some (.slice none 0 0), 1, 24) := by kernel_rfl
theorem wp_append_row {P : Program} {w : World} {o : Oper} {a : Act} {K : Act → World → Prop} {Q : Exit → Act → World → Prop} (s x : Operand) (t : TypeId)
    (ho : o.op = .call { callee := .builtin .append, args := #[s, x], argTypes := #[t, t] })
    (base : Nat) (e : TypeId) (i : TypeInfo) (z : Value) (size bytes : Nat) (ht : P.underlying t = some (.slice e)) (hi : P.info? e = some i) (hz : i.zero = some z)
    (hsize : i.size = size) (hby : i.bytes = bytes) (hzs : z.cells.size = size) (hsz : 0 < size)
    (v : Value) (n : Nat) (xs : List Value) (hs : a.eval s = v) (hown : w.ownsRow base e size v n xs)
    (B : Nat) (u : Value) (m : Nat) (news : List Value) (hx : a.eval x = u) (hsl : Sl B w u size m news) (hm : 0 < m) (h1 : ∀ u ∈ news, u.oneCell' = true)
    (h63 : n + m ≤ maxLen) (hbytes : (n + m) * bytes ≤ 140737488355328) (hbase : base ≤ w.heap.size)
    (h : ∀ v' w', w'.ownsRow base e size v' (n + m) (xs ++ news) → w.grownBy w' v.ownBlock → (v'.ownBlock = v.ownBlock ∨ v'.ownBlock = some w.heap.size) → K (a.put o.dst v') w') : Oper.wp P o a w K Q := by
  obtain ⟨hl, hc⟩ := hsl
  rcases hc with ⟨rfl, rfl⟩ | ⟨ad, cap, rfl, _, _, hcell⟩
  · omega
  · obtain ⟨v', w', hr, h2, h3, -, h5⟩ := run_append_own_at (P := P) w base t o.type e i z size bytes ht hi hz hsize hby hzs hsz v n xs hown ad m cap news hl (fun j u hu => by
      have hj : j < m * size := by rw [← hl]; exact (List.getElem?_eq_some_iff.1 hu).1
      obtain ⟨g, off, rfl, _, hcell⟩ := hcell hm
      have hadd : (⟨g, off, none⟩ : Addr).add j = ⟨g, off + j, none⟩ := by unfold Addr.add; split <;> simp_all
      rw [hadd, hcell j hj]; exact hu) h1 h63 hbytes hbase
    unfold Oper.wp execOp
    simp only [ho, resolve, invoke, builtin, Sem.run_bind, Sem.run_pure, Result.andThen_ok, List.map_toArray, List.map_cons, List.map_nil, hs, hx, hr]
    exact h v' w' h2 h3 h5
theorem sl_oneB {w : World} {g : Nat} {x : Value} {t : TypeId} (h : w.heap[g]? = some (.cells #[x] t (0, 0))) : Sl (g + 1) w (.slice (some ⟨g, 0, none⟩) 1 1) 1 1 [x] :=
  ⟨rfl, .inr ⟨_, 1, rfl, Nat.le_refl _, by unfold maxLen; decide, fun _ => ⟨g, 0, rfl, Nat.lt_succ_self _, fun j hj => by
    obtain rfl : j = 0 := by simp at hj; omega
    rw [block_cells h]; rfl⟩⟩⟩
theorem own_apartH {w : World} {b1 b2 : Nat} {e1 e2 : TypeId} {s1 s2 n1 n2 : Nat} {v1 v2 : Value} {xs1 xs2 : List Value} (h1 : w.ownsRow b1 e1 s1 v1 n1 xs1) (h2 : w.ownsRow b2 e2 s2 v2 n2 xs2) (he : e1 ≠ e2) : v1.ownBlock = none ∨ v1.ownBlock ≠ v2.ownBlock := by
  rcases h1.2 with ⟨rfl, -⟩ | ⟨g1, c1, cur1, rfl, -, q1, -⟩
  · exact .inl rfl
  · refine .inr fun h => ?_
    rcases h2.2 with ⟨rfl, -⟩ | ⟨g2, c2, cur2, rfl, -, q2, -⟩
    · simp [Value.ownBlock] at h
    · simp only [Value.ownBlock, Option.some.injEq] at h
      subst h
      rw [q1] at q2
      simp only [Option.some.injEq, Obj.cells.injEq] at q2
      exact he q2.2.1
theorem blk_keep {w w' : World} {b : Nat} {e t : TypeId} {s n g : Nat} {v : Value} {xs : List Value} {cs : Array Value} (hq : w.heap[g]? = some (.cells cs t (0, 0))) (ho : w.ownsRow b e s v n xs) (he : t ≠ e) (hg : w.grownBy w' v.ownBlock) : w'.heap[g]? = some (.cells cs t (0, 0)) := by
  refine (hg.block g (block_lt hq) (fun h => ?_)).trans hq
  rcases ho.2 with ⟨rfl, -⟩ | ⟨g1, c1, cur1, rfl, -, q1, -⟩
  · simp [Value.ownBlock] at h
  · simp only [Value.ownBlock, Option.some.injEq] at h
    subst h
    rw [q1] at hq
    simp only [Option.some.injEq, Obj.cells.injEq] at hq
    exact he hq.2.1.symm
theorem rd_staysH {w w' : World} {R : Nat} (h : w.grownBy w' (some R)) {g : Nat} {o : Obj} (hq : w.heap[g]? = some o) (hn : g ≠ R) : w'.heap[g]? = some o := (h.block g (block_lt hq) (by simpa using hn)).trans hq
/-- A list of byte strings, in rows of the call's own. -/
structure BsW (base : Nat) (w : World) (v : Value) (M : List (Value × List Int)) : Prop where
  own : w.ownsRow base 32 1 v M.length (M.map (·.1))
  el : ∀ x ∈ M, w.ownsRow base 5 1 x.1 x.2.length (byt x.2)
def BsEnd (w : World) (L : List (List Int)) (e : Ending) (w' : World) : Prop := ∃ v M, e = .returned v ∧ M.map (·.2) = L ∧ BsW w.heap.size w' v M ∧ Below w.heap.size w w'
theorem BsW.nil (base : Nat) (w : World) : BsW base w (.slice none 0 0) [] := ⟨⟨rfl, .inl ⟨rfl, rfl⟩⟩, fun x hx => absurd hx (by simp)⟩
theorem BsW.keep {base : Nat} {w w' : World} {v : Value} {M : List (Value × List Int)} (h : BsW base w v M) (hb : Below w.heap.size w w') : BsW base w' v M := ⟨own_keptH h.own hb, fun x hx => own_keptH (h.el x hx) hb⟩
theorem BsW.mono {base base' : Nat} {w : World} {v : Value} {M : List (Value × List Int)} (h : BsW base w v M) (hb : base' ≤ base) : BsW base' w v M := ⟨h.own.mono hb, fun x hx => (h.el x hx).mono hb⟩
theorem BsW.app {base : Nat} {w w' : World} {v v' x : Value} {M : List (Value × List Int)} {l : List Int} (h : BsW base w v M) (hx : w.ownsRow base 5 1 x l.length (byt l)) (h2 : w'.ownsRow base 32 1 v' (M.length + 1) (M.map (·.1) ++ [x])) (h3 : w.grownBy w' v.ownBlock) : BsW base w' v' (M ++ [(x, l)]) := by
  refine ⟨?_, fun y hy => ?_⟩
  · rw [List.length_append, List.map_append]; exact h2
  · rcases List.mem_append.1 hy with hy | hy
    · exact (h.el y hy).kept h3 (own_apartH (h.el y hy) h.own (by decide))
    · rw [List.mem_singleton] at hy; rw [hy]; exact hx.kept h3 (own_apartH hx h.own (by decide))
theorem BsW.below {base n0 : Nat} {w0 w w' : World} {v : Value} {M : List (Value × List Int)} (h : BsW base w v M) (hb : Below n0 w0 w) (hn : n0 ≤ w.heap.size) (hl : n0 ≤ base) (hg : w.grownBy w' v.ownBlock) : Below n0 w0 w' := hb.grown hg hn (fun k hk => Nat.le_trans hl (h.own.lt k hk).1)
/-- What can be written of a core. -/
structure CoF (n : Co) : Prop where
  tm : In64 n.tm
  vt : In64 n.vt
  bt : In64 n.l.bt
  j : JoF (joX n.l.j)
  sn : n.sn.size ≤ 1000000
  es : ∀ e ∈ n.l.es, In64 e.t ∧ In64 e.k ∧ JoF (joX e.j) ∧ e.d.size ≤ 1000000
/-- Between two cores, in the midst: their blocks; the list so far. -/
structure DfW (w0 w : World) (A C : Nat) (ca cc : Array Value) (v : Value) (M : List (Value × List Int)) : Prop where
  b : Below w0.heap.size w0 w
  a : w.heap[A]? = some (.cells ca 48 (0, 0))
  c : w.heap[C]? = some (.cells cc 48 (0, 0))
  l : BsW w0.heap.size w v M
theorem DfW.keep {w0 w w' : World} {A C : Nat} {ca cc : Array Value} {v : Value} {M : List (Value × List Int)} (h : DfW w0 w A C ca cc v M) (hb : Below w.heap.size w w') : DfW w0 w' A C ca cc v M :=
  ⟨h.b.trans (hb.mono h.b.size), below_block hb (block_lt h.a) h.a, below_block hb (block_lt h.c) h.c, h.l.keep hb⟩
theorem DfW.app {w0 w w' : World} {A C : Nat} {ca cc : Array Value} {v v' x : Value} {M : List (Value × List Int)} {l : List Int} (h : DfW w0 w A C ca cc v M) (hx : w.ownsRow w0.heap.size 5 1 x l.length (byt l)) (h2 : w'.ownsRow w0.heap.size 32 1 v' (M.length + 1) (M.map (·.1) ++ [x])) (h3 : w.grownBy w' v.ownBlock) : DfW w0 w' A C ca cc v' (M ++ [(x, l)]) :=
  ⟨h.l.below h.b h.b.size (Nat.le_refl _) h3, blk_keep h.a h.l.own (by decide) h3, blk_keep h.c h.l.own (by decide) h3, h.l.app hx h2 h3⟩
theorem own_ne {w : World} {b : Nat} {e t : TypeId} {sz n g : Nat} {v : Value} {xs : List Value} {cs : Array Value} (ho : w.ownsRow b e sz v n xs) (hq : w.heap[g]? = some (.cells cs t (0, 0))) (he : t ≠ e) : v.ownBlock = none ∨ v.ownBlock ≠ some g := by
  rcases ho.2 with ⟨rfl, -⟩ | ⟨g1, c1, cur1, rfl, -, q1, -⟩
  · exact .inl rfl
  · refine .inr fun h => ?_
    simp only [Value.ownBlock, Option.some.injEq] at h
    subst h
    rw [q1] at hq
    simp only [Option.some.injEq, Obj.cells.injEq] at hq
    exact he hq.2.1.symm
theorem DfW.put {w0 w w' : World} {A C D : Nat} {ca cc cd : Array Value} {t : TypeId} {v : Value} {M : List (Value × List Int)} (h : DfW w0 w A C ca cc v M) (hq : w.heap[D]? = some (.cells cd t (0, 0))) (h1 : t ≠ 32) (h2 : t ≠ 5) (hA : A ≠ D) (hC : C ≠ D) (hD : w0.heap.size ≤ D) (hg : w.grownBy w' (some D)) : DfW w0 w' A C ca cc v M :=
  ⟨h.b.grown hg h.b.size (fun k hk => by cases hk; exact hD), rd_staysH hg h.a hA, rd_staysH hg h.c hC, ⟨h.l.own.kept hg (own_ne h.l.own hq h1), fun x hx => (h.l.el x hx).kept hg (own_ne (h.l.el x hx) hq h2)⟩⟩
theorem neq_ent_yes (e : Ent) (w : World) : (binOp .neq 85 (.agg #[.int .i64 e.t, .int .i64 e.k, .string e.d, .int .u16 e.j.ov, .int .u16 e.j.ox, .int .u16 e.j.ol, .int .i64 e.j.oe, .int .i64 e.j.ok, .int .u16 e.j.nv, .int .u16 e.j.nx, .int .u16 e.j.nl, .int .i64 e.j.ne, .int .i64 e.j.nk, .bool e.j.two]) (.agg #[.int .i64 e.t, .int .i64 e.k, .string e.d, .int .u16 e.j.ov, .int .u16 e.j.ox, .int .u16 e.j.ol, .int .i64 e.j.oe, .int .i64 e.j.ok, .int .u16 e.j.nv, .int .u16 e.j.nx, .int .u16 e.j.nl, .int .i64 e.j.ne, .int .i64 e.j.nk, .bool e.j.two])).run Try.prog w = .ok (.bool false) w := by rw [run_neq_ent, decide_eq_true rfl]; rfl
theorem entsB_len (r : Int) : ∀ (i : Int) (L : List Ent), (entsB r i L).length = L.length
  | _, [] => rfl
  | i, e :: es => by unfold entsB; rw [List.length_cons, entsB_len r (i + 1) es, List.length_cons]
theorem entsB_next (r : Int) : ∀ (i : Int) (L : List Ent) {k : Nat} (h : k < L.length), entsB r i (L.take (k + 1)) = entsB r i (L.take k) ++ [entB r (i + k) L[k]]
  | _, [], k, h => absurd h (by simp)
  | i, e :: es, 0, _ => by simp [entsB]
  | i, e :: es, k + 1, h => by
    have := entsB_next r (i + 1) es (k := k) (by simpa using h)
    simp only [List.take_succ_cons, entsB, List.cons_append, List.getElem_cons_succ]
    rw [this, show i + 1 + (k : Int) = i + ((k + 1 : Nat) : Int) by omega]
theorem joX_neq {j k : Jn} (h : j ≠ k) (w : World) : (binOp .neq 42 (.agg #[.int .u16 j.ov, .int .u16 j.ox, .int .u16 j.ol, .int .i64 j.oe, .int .i64 j.ok, .int .u16 j.nv, .int .u16 j.nx, .int .u16 j.nl, .int .i64 j.ne, .int .i64 j.nk, .bool j.two]) (.agg #[.int .u16 k.ov, .int .u16 k.ox, .int .u16 k.ol, .int .i64 k.oe, .int .i64 k.ok, .int .u16 k.nv, .int .u16 k.nx, .int .u16 k.nl, .int .i64 k.ne, .int .i64 k.nk, .bool k.two])).run Try.prog w = .ok (.bool true) w := by rw [run_neq_jn, decide_eq_false h]; rfl
theorem joX_eq (j : Jn) (w : World) : (binOp .neq 42 (.agg #[.int .u16 j.ov, .int .u16 j.ox, .int .u16 j.ol, .int .i64 j.oe, .int .i64 j.ok, .int .u16 j.nv, .int .u16 j.nx, .int .u16 j.nl, .int .i64 j.ne, .int .i64 j.nk, .bool j.two]) (.agg #[.int .u16 j.ov, .int .u16 j.ox, .int .u16 j.ol, .int .i64 j.oe, .int .i64 j.ok, .int .u16 j.nv, .int .u16 j.nx, .int .u16 j.nl, .int .i64 j.ne, .int .i64 j.nk, .bool j.two])).run Try.prog w = .ok (.bool false) w := by rw [run_neq_jn, decide_eq_true rfl]; rfl
set_option maxRecDepth 100000 in
set_option maxHeartbeats 16000000 in
theorem hdiff_any (r : Int) (o n : Co) (po pn : Option Addr) (co cn : Nat) (w : World) (FO : LgFit o.l) (FN : LgFit n.l) (hr : In64 r) (N : CoF n) (eo : EnSl w (.slice po o.l.es.length co) o.l.es) (en : EnSl w (.slice pn n.l.es.length cn) n.l.es) :
    Calls Try.prog 16 #[.int .i64 r, .agg #[.int .i64 o.id, .int .i64 o.role, .int .i64 o.tm, .int .i64 o.vt, .int .i64 o.ld, .int .i64 o.wt, .int .i64 o.cm, .int .i64 o.sf, .int .i64 o.l.b, .int .i64 o.l.bt, .int .u16 o.l.j.ov, .int .u16 o.l.j.ox, .int .u16 o.l.j.ol, .int .i64 o.l.j.oe, .int .i64 o.l.j.ok, .int .u16 o.l.j.nv, .int .u16 o.l.j.nx, .int .u16 o.l.j.nl, .int .i64 o.l.j.ne, .int .i64 o.l.j.nk, .bool o.l.j.two, .slice po o.l.es.length co, .string o.sn, .int .u16 o.vs, .int .u16 o.hd, .int .i64 (o.nx 0), .int .i64 (o.nx 1), .int .i64 (o.nx 2), .int .i64 (o.nx 3), .int .i64 (o.nx 4), .int .i64 (o.nx 5), .int .i64 (o.nx 6), .int .i64 (o.nx 7), .int .i64 (o.nx 8), .int .i64 (o.nx 9), .int .i64 (o.mt 0), .int .i64 (o.mt 1), .int .i64 (o.mt 2), .int .i64 (o.mt 3), .int .i64 (o.mt 4), .int .i64 (o.mt 5), .int .i64 (o.mt 6), .int .i64 (o.mt 7), .int .i64 (o.mt 8), .int .i64 (o.mt 9)], .agg #[.int .i64 n.id, .int .i64 n.role, .int .i64 n.tm, .int .i64 n.vt, .int .i64 n.ld, .int .i64 n.wt, .int .i64 n.cm, .int .i64 n.sf, .int .i64 n.l.b, .int .i64 n.l.bt, .int .u16 n.l.j.ov, .int .u16 n.l.j.ox, .int .u16 n.l.j.ol, .int .i64 n.l.j.oe, .int .i64 n.l.j.ok, .int .u16 n.l.j.nv, .int .u16 n.l.j.nx, .int .u16 n.l.j.nl, .int .i64 n.l.j.ne, .int .i64 n.l.j.nk, .bool n.l.j.two, .slice pn n.l.es.length cn, .string n.sn, .int .u16 n.vs, .int .u16 n.hd, .int .i64 (n.nx 0), .int .i64 (n.nx 1), .int .i64 (n.nx 2), .int .i64 (n.nx 3), .int .i64 (n.nx 4), .int .i64 (n.nx 5), .int .i64 (n.nx 6), .int .i64 (n.nx 7), .int .i64 (n.nx 8), .int .i64 (n.nx 9), .int .i64 (n.mt 0), .int .i64 (n.mt 1), .int .i64 (n.mt 2), .int .i64 (n.mt 3), .int .i64 (n.mt 4), .int .i64 (n.mt 5), .int .i64 (n.mt 6), .int .i64 (n.mt 7), .int .i64 (n.mt 8), .int .i64 (n.mt 9)]] w (BsEnd w (diffB r o n)) := by
  have HFO : Hid (LgFit o.l) := FO; have HFN : Hid (LgFit n.l) := FN; have HRI := Lib.hid hr; have HN := Lib.hid N; have HEO := Lib.hid eo; have HEN := Lib.hid en
  obtain ⟨i0, hi0, hz0, hz1, hz2⟩ := info_parts Try.infoBs
  clear FO FN hr N eo en
  go_enter Try.func16, Try.ntmps16
  obtain ⟨Q', hQ⟩ : ∃ Q', bodyPost Try.prog Try.f16 (BsEnd w (diffB r o n)) = Q' := ⟨_, rfl⟩
  have HQ : Hid (∀ (a : Act) (w' : World) (v : Value) (M : List (Value × List Int)), a.tmps.getD 6 undef = v → a.defers = [] → M.map (·.2) = diffB r o n → BsW w.heap.size w' v M → Below w.heap.size w w' → Q' .ret a w') := fun a w' v M h6 hd hm hl hb => by
    rw [← hQ]; exact bodyPost_ret (v := v) (by rw [results_tmp rfl, h6]) hd ⟨v, M, rfl, hm, hl, hb⟩
  rw [hQ]
  clear hQ
  go_upto_region 2 with fail
  obtain ⟨Wa, hWa⟩ : ∃ x : World, w.alloc (.cells #[.int .i64 o.id, .int .i64 o.role, .int .i64 o.tm, .int .i64 o.vt, .int .i64 o.ld, .int .i64 o.wt, .int .i64 o.cm, .int .i64 o.sf, .int .i64 o.l.b, .int .i64 o.l.bt, .int .u16 o.l.j.ov, .int .u16 o.l.j.ox, .int .u16 o.l.j.ol, .int .i64 o.l.j.oe, .int .i64 o.l.j.ok, .int .u16 o.l.j.nv, .int .u16 o.l.j.nx, .int .u16 o.l.j.nl, .int .i64 o.l.j.ne, .int .i64 o.l.j.nk, .bool o.l.j.two, .slice po o.l.es.length co, .string o.sn, .int .u16 o.vs, .int .u16 o.hd, .int .i64 (o.nx 0), .int .i64 (o.nx 1), .int .i64 (o.nx 2), .int .i64 (o.nx 3), .int .i64 (o.nx 4), .int .i64 (o.nx 5), .int .i64 (o.nx 6), .int .i64 (o.nx 7), .int .i64 (o.nx 8), .int .i64 (o.nx 9), .int .i64 (o.mt 0), .int .i64 (o.mt 1), .int .i64 (o.mt 2), .int .i64 (o.mt 3), .int .i64 (o.mt 4), .int .i64 (o.mt 5), .int .i64 (o.mt 6), .int .i64 (o.mt 7), .int .i64 (o.mt 8), .int .i64 (o.mt 9)] 48) = x := ⟨_, rfl⟩
  obtain ⟨W, hW⟩ : ∃ x : World, Wa.alloc (.cells #[.int .i64 n.id, .int .i64 n.role, .int .i64 n.tm, .int .i64 n.vt, .int .i64 n.ld, .int .i64 n.wt, .int .i64 n.cm, .int .i64 n.sf, .int .i64 n.l.b, .int .i64 n.l.bt, .int .u16 n.l.j.ov, .int .u16 n.l.j.ox, .int .u16 n.l.j.ol, .int .i64 n.l.j.oe, .int .i64 n.l.j.ok, .int .u16 n.l.j.nv, .int .u16 n.l.j.nx, .int .u16 n.l.j.nl, .int .i64 n.l.j.ne, .int .i64 n.l.j.nk, .bool n.l.j.two, .slice pn n.l.es.length cn, .string n.sn, .int .u16 n.vs, .int .u16 n.hd, .int .i64 (n.nx 0), .int .i64 (n.nx 1), .int .i64 (n.nx 2), .int .i64 (n.nx 3), .int .i64 (n.nx 4), .int .i64 (n.nx 5), .int .i64 (n.nx 6), .int .i64 (n.nx 7), .int .i64 (n.nx 8), .int .i64 (n.nx 9), .int .i64 (n.mt 0), .int .i64 (n.mt 1), .int .i64 (n.mt 2), .int .i64 (n.mt 3), .int .i64 (n.mt 4), .int .i64 (n.mt 5), .int .i64 (n.mt 6), .int .i64 (n.mt 7), .int .i64 (n.mt 8), .int .i64 (n.mt 9)] 48) = x := ⟨_, rfl⟩
  have sa : Wa.heap.size = w.heap.size + 1 := by rw [← hWa]; simp
  have ba : Below w.heap.size w Wa := by rw [← hWa]; exact (Below.refl _ _).alloc (Nat.le_refl _) _
  have bb : Below Wa.heap.size Wa W := by rw [← hW]; exact (Below.refl _ _).alloc (Nat.le_refl _) _
  have hA0 : Wa.heap[w.heap.size]? = some (.cells #[.int .i64 o.id, .int .i64 o.role, .int .i64 o.tm, .int .i64 o.vt, .int .i64 o.ld, .int .i64 o.wt, .int .i64 o.cm, .int .i64 o.sf, .int .i64 o.l.b, .int .i64 o.l.bt, .int .u16 o.l.j.ov, .int .u16 o.l.j.ox, .int .u16 o.l.j.ol, .int .i64 o.l.j.oe, .int .i64 o.l.j.ok, .int .u16 o.l.j.nv, .int .u16 o.l.j.nx, .int .u16 o.l.j.nl, .int .i64 o.l.j.ne, .int .i64 o.l.j.nk, .bool o.l.j.two, .slice po o.l.es.length co, .string o.sn, .int .u16 o.vs, .int .u16 o.hd, .int .i64 (o.nx 0), .int .i64 (o.nx 1), .int .i64 (o.nx 2), .int .i64 (o.nx 3), .int .i64 (o.nx 4), .int .i64 (o.nx 5), .int .i64 (o.nx 6), .int .i64 (o.nx 7), .int .i64 (o.nx 8), .int .i64 (o.nx 9), .int .i64 (o.mt 0), .int .i64 (o.mt 1), .int .i64 (o.mt 2), .int .i64 (o.mt 3), .int .i64 (o.mt 4), .int .i64 (o.mt 5), .int .i64 (o.mt 6), .int .i64 (o.mt 7), .int .i64 (o.mt 8), .int .i64 (o.mt 9)] 48 (0, 0)) := by rw [← hWa]; exact heap_last _ _
  have hC0 : W.heap[Wa.heap.size]? = some (.cells #[.int .i64 n.id, .int .i64 n.role, .int .i64 n.tm, .int .i64 n.vt, .int .i64 n.ld, .int .i64 n.wt, .int .i64 n.cm, .int .i64 n.sf, .int .i64 n.l.b, .int .i64 n.l.bt, .int .u16 n.l.j.ov, .int .u16 n.l.j.ox, .int .u16 n.l.j.ol, .int .i64 n.l.j.oe, .int .i64 n.l.j.ok, .int .u16 n.l.j.nv, .int .u16 n.l.j.nx, .int .u16 n.l.j.nl, .int .i64 n.l.j.ne, .int .i64 n.l.j.nk, .bool n.l.j.two, .slice pn n.l.es.length cn, .string n.sn, .int .u16 n.vs, .int .u16 n.hd, .int .i64 (n.nx 0), .int .i64 (n.nx 1), .int .i64 (n.nx 2), .int .i64 (n.nx 3), .int .i64 (n.nx 4), .int .i64 (n.nx 5), .int .i64 (n.nx 6), .int .i64 (n.nx 7), .int .i64 (n.nx 8), .int .i64 (n.nx 9), .int .i64 (n.mt 0), .int .i64 (n.mt 1), .int .i64 (n.mt 2), .int .i64 (n.mt 3), .int .i64 (n.mt 4), .int .i64 (n.mt 5), .int .i64 (n.mt 6), .int .i64 (n.mt 7), .int .i64 (n.mt 8), .int .i64 (n.mt 9)] 48 (0, 0)) := by rw [← hW]; exact heap_last _ _
  have hA1 := below_block bb (block_lt hA0) hA0
  have hb2 := ba.trans (bb.mono (by omega))
  rw [hWa, hW]
  (try rw [sa])
  rw [sa] at hC0
  obtain ⟨A, eA⟩ : ∃ x, w.heap.size = x := ⟨_, rfl⟩
  have HEA := Lib.hid eA
  (try rw [eA])
  rw [eA] at hA1 hC0
  obtain ⟨C, eC⟩ : ∃ x, A + 1 = x := ⟨_, rfl⟩
  (try rw [eC])
  rw [eC] at hC0
  have HW : Hid (DfW w W A C #[.int .i64 o.id, .int .i64 o.role, .int .i64 o.tm, .int .i64 o.vt, .int .i64 o.ld, .int .i64 o.wt, .int .i64 o.cm, .int .i64 o.sf, .int .i64 o.l.b, .int .i64 o.l.bt, .int .u16 o.l.j.ov, .int .u16 o.l.j.ox, .int .u16 o.l.j.ol, .int .i64 o.l.j.oe, .int .i64 o.l.j.ok, .int .u16 o.l.j.nv, .int .u16 o.l.j.nx, .int .u16 o.l.j.nl, .int .i64 o.l.j.ne, .int .i64 o.l.j.nk, .bool o.l.j.two, .slice po o.l.es.length co, .string o.sn, .int .u16 o.vs, .int .u16 o.hd, .int .i64 (o.nx 0), .int .i64 (o.nx 1), .int .i64 (o.nx 2), .int .i64 (o.nx 3), .int .i64 (o.nx 4), .int .i64 (o.nx 5), .int .i64 (o.nx 6), .int .i64 (o.nx 7), .int .i64 (o.nx 8), .int .i64 (o.nx 9), .int .i64 (o.mt 0), .int .i64 (o.mt 1), .int .i64 (o.mt 2), .int .i64 (o.mt 3), .int .i64 (o.mt 4), .int .i64 (o.mt 5), .int .i64 (o.mt 6), .int .i64 (o.mt 7), .int .i64 (o.mt 8), .int .i64 (o.mt 9)] #[.int .i64 n.id, .int .i64 n.role, .int .i64 n.tm, .int .i64 n.vt, .int .i64 n.ld, .int .i64 n.wt, .int .i64 n.cm, .int .i64 n.sf, .int .i64 n.l.b, .int .i64 n.l.bt, .int .u16 n.l.j.ov, .int .u16 n.l.j.ox, .int .u16 n.l.j.ol, .int .i64 n.l.j.oe, .int .i64 n.l.j.ok, .int .u16 n.l.j.nv, .int .u16 n.l.j.nx, .int .u16 n.l.j.nl, .int .i64 n.l.j.ne, .int .i64 n.l.j.nk, .bool n.l.j.two, .slice pn n.l.es.length cn, .string n.sn, .int .u16 n.vs, .int .u16 n.hd, .int .i64 (n.nx 0), .int .i64 (n.nx 1), .int .i64 (n.nx 2), .int .i64 (n.nx 3), .int .i64 (n.nx 4), .int .i64 (n.nx 5), .int .i64 (n.nx 6), .int .i64 (n.nx 7), .int .i64 (n.nx 8), .int .i64 (n.nx 9), .int .i64 (n.mt 0), .int .i64 (n.mt 1), .int .i64 (n.mt 2), .int .i64 (n.mt 3), .int .i64 (n.mt 4), .int .i64 (n.mt 5), .int .i64 (n.mt 6), .int .i64 (n.mt 7), .int .i64 (n.mt 8), .int .i64 (n.mt 9)] (.slice none 0 0) []) := ⟨hb2, hA1, hC0, BsW.nil _ _⟩
  have hAC : A < C := by omega
  have hAw : w.heap.size ≤ A := by rw [HEA.out]; exact Nat.le_refl _
  clear hWa hW sa ba bb hA0 hA1 hC0 hb2 eA eC
  have kA := block_cells HW.out.a
  have kC := block_cells HW.out.c
  go_cut [31] from 20 to 31 (fun c wx => c = .bool (hardB o n) ∧ wx = W)
  case first =>
    by_cases h1 : n.tm = o.tm
    · by_cases h2 : n.vt = o.vt
      · have hb : hardB o n = false := by unfold hardB; simp [h1, h2]
        have q1 : (n.tm != o.tm) = false := by simpa using h1
        have q2 : (n.vt != o.vt) = false := by simpa using h2
        have HB := Lib.hid hb
        clear h1 h2 hb
        go_wp2_with fail
        go_meet
        case rel => exact ⟨by rw [HB.out], rfl⟩
      · have hb : hardB o n = true := by unfold hardB; simp [h2]
        have q1 : (n.tm != o.tm) = false := by simpa using h1
        have q2 : (n.vt != o.vt) = true := by simpa using h2
        have HB := Lib.hid hb
        clear h1 h2 hb
        go_wp2_with fail
        go_meet
        case rel => exact ⟨by rw [HB.out], rfl⟩
    · have hb : hardB o n = true := by unfold hardB; simp [h1]
      have q1 : (n.tm != o.tm) = true := by simpa using h1
      have HB := Lib.hid hb
      clear h1 hb
      go_wp2_with fail
      go_meet
      case rel => exact ⟨by rw [HB.out], rfl⟩
  obtain ⟨rfl, hw⟩ := hcut
  rw [hw]
  clear hw wc
  go_upto_if 31 with fail
  go_cut [7] from 31 to 41 (fun v wx => Hid (∃ M, M.map (·.2) = (if hardB o n = true then [recB 72 [r, n.tm, n.vt]] else []) ∧ DfW w wx A C #[.int .i64 o.id, .int .i64 o.role, .int .i64 o.tm, .int .i64 o.vt, .int .i64 o.ld, .int .i64 o.wt, .int .i64 o.cm, .int .i64 o.sf, .int .i64 o.l.b, .int .i64 o.l.bt, .int .u16 o.l.j.ov, .int .u16 o.l.j.ox, .int .u16 o.l.j.ol, .int .i64 o.l.j.oe, .int .i64 o.l.j.ok, .int .u16 o.l.j.nv, .int .u16 o.l.j.nx, .int .u16 o.l.j.nl, .int .i64 o.l.j.ne, .int .i64 o.l.j.nk, .bool o.l.j.two, .slice po o.l.es.length co, .string o.sn, .int .u16 o.vs, .int .u16 o.hd, .int .i64 (o.nx 0), .int .i64 (o.nx 1), .int .i64 (o.nx 2), .int .i64 (o.nx 3), .int .i64 (o.nx 4), .int .i64 (o.nx 5), .int .i64 (o.nx 6), .int .i64 (o.nx 7), .int .i64 (o.nx 8), .int .i64 (o.nx 9), .int .i64 (o.mt 0), .int .i64 (o.mt 1), .int .i64 (o.mt 2), .int .i64 (o.mt 3), .int .i64 (o.mt 4), .int .i64 (o.mt 5), .int .i64 (o.mt 6), .int .i64 (o.mt 7), .int .i64 (o.mt 8), .int .i64 (o.mt 9)] #[.int .i64 n.id, .int .i64 n.role, .int .i64 n.tm, .int .i64 n.vt, .int .i64 n.ld, .int .i64 n.wt, .int .i64 n.cm, .int .i64 n.sf, .int .i64 n.l.b, .int .i64 n.l.bt, .int .u16 n.l.j.ov, .int .u16 n.l.j.ox, .int .u16 n.l.j.ol, .int .i64 n.l.j.oe, .int .i64 n.l.j.ok, .int .u16 n.l.j.nv, .int .u16 n.l.j.nx, .int .u16 n.l.j.nl, .int .i64 n.l.j.ne, .int .i64 n.l.j.nk, .bool n.l.j.two, .slice pn n.l.es.length cn, .string n.sn, .int .u16 n.vs, .int .u16 n.hd, .int .i64 (n.nx 0), .int .i64 (n.nx 1), .int .i64 (n.nx 2), .int .i64 (n.nx 3), .int .i64 (n.nx 4), .int .i64 (n.nx 5), .int .i64 (n.nx 6), .int .i64 (n.nx 7), .int .i64 (n.nx 8), .int .i64 (n.nx 9), .int .i64 (n.mt 0), .int .i64 (n.mt 1), .int .i64 (n.mt 2), .int .i64 (n.mt 3), .int .i64 (n.mt 4), .int .i64 (n.mt 5), .int .i64 (n.mt 6), .int .i64 (n.mt 7), .int .i64 (n.mt 8), .int .i64 (n.mt 9)] v M))
  case first =>
    cases hb : hardB o n with
    | false =>
      have HB := Lib.hid hb
      clear hb
      go_wp2_with fail
      go_meet
      case rel => exact ⟨[], by rw [HB.out]; rfl, HW.out⟩
    | true =>
      have HB := Lib.hid hb
      clear hb
      have bl : Below W.heap.size W (W.alloc (.cells #[.int .i64 r, .int .i64 n.tm, .int .i64 n.vt] 3)) := (Below.refl _ _).alloc (Nat.le_refl _) _
      have HC := Lib.hid (record_any 72 (some ⟨W.heap.size, 0, none⟩) 3 [r, n.tm, n.vt] (W.alloc (.cells #[.int .i64 r, .int .i64 n.tm, .int .i64 n.vt] 3)) (nums_ofH (t := 3) (heap_last W _)) (fun y hy => by
        simp only [List.mem_cons, List.not_mem_nil, or_false] at hy
        rcases hy with rfl | rfl | rfl
        · exact HRI.out
        · exact HN.out.tm
        · exact HN.out.vt) (by simp))
      have HW1 := Lib.hid (HW.out.keep bl)
      clear bl
      go_wp2_with fail
      refine HC.out.mono ?_; rintro e w1 ⟨v1, rfl, ho1, hb1⟩
      obtain ⟨px, cx, rfl, -⟩ := (Sl.of_own ho1).form
      have hbx : Below w1.heap.size w1 (w1.alloc (.cells #[.slice px (recB 72 [r, n.tm, n.vt]).length cx] 32)) := (Below.refl _ _).alloc (Nat.le_refl _) _
      have HWx := Lib.hid ((HW1.out.keep hb1).keep hbx)
      have HOx := Lib.hid (own_keptH (ho1.mono HW1.out.b.size) hbx)
      have HQx : Hid ((w1.alloc (.cells #[.slice px (recB 72 [r, n.tm, n.vt]).length cx] 32)).heap[w1.heap.size]? = some (.cells #[.slice px (recB 72 [r, n.tm, n.vt]).length cx] 32 (0, 0))) := heap_last w1 _
      clear hb1 ho1 hbx
      go_wp2_with (at_builtin; go_loud (refine wpList_append_sl_at rfl _ _ 23 rfl w.heap.size 32 i0 (.slice none 0 0) 1 24 Try.underlying23 hi0 hz0 hz1 hz2 rfl (by decide) (.slice none 0 0) ([] : List (Value × List Int)).length (([] : List (Value × List Int)).map (·.1)) rfl HWx.out.l.own _ _ 1 [.slice px (recB 72 [r, n.tm, n.vt]).length cx] rfl (sl_oneB HQx.out) (by intro u hu; rw [List.mem_singleton] at hu; rw [hu]; rfl) ?d1 ?d2 ?d3 ?_))
      case d1 => (try rw [HLEN.out]); (try simp only [List.length_nil]); unfold maxLen; omega
      case d2 => (try rw [HLEN.out]); (try simp only [List.length_nil]); omega
      case d3 => exact HWx.out.b.size
      intro vy wy h2 h3 h4
      have HW2 := Lib.hid (HWx.out.app HOx.out h2 h3)
      clear h2 h3 h4 HWx HOx HQx
      go_wp2_with fail
      go_meet
      case rel => exact ⟨_, by rw [HB.out]; rfl, HW2.out⟩
  obtain ⟨v1, hv1⟩ : ∃ x, x = u7 := ⟨_, rfl⟩
  rw [← hv1] at hcut ⊢
  clear hv1
  obtain ⟨W1, rfl⟩ : ∃ x : World, x = wc := ⟨_, rfl⟩
  obtain ⟨M1, hM1, hW1⟩ := hcut.out
  have HM1 := Lib.hid hM1; have HW1 := Lib.hid hW1
  clear hM1 hW1 hcut kA kC HW
  have kA := block_cells HW1.out.a
  have kC := block_cells HW1.out.c
  go_upto_region 5 with fail
  obtain ⟨W2, hW2⟩ : ∃ x : World, W1.alloc (.cells #[.int .i64 o.l.b, .int .i64 o.l.bt, .int .u16 o.l.j.ov, .int .u16 o.l.j.ox, .int .u16 o.l.j.ol, .int .i64 o.l.j.oe, .int .i64 o.l.j.ok, .int .u16 o.l.j.nv, .int .u16 o.l.j.nx, .int .u16 o.l.j.nl, .int .i64 o.l.j.ne, .int .i64 o.l.j.nk, .bool o.l.j.two, .slice po o.l.es.length co] 45) = x := ⟨_, rfl⟩
  have bl : Below W1.heap.size W1 W2 := by rw [← hW2]; exact (Below.refl _ _).alloc (Nat.le_refl _) _
  have hD : W2.heap[W1.heap.size]? = some (.cells #[.int .i64 o.l.b, .int .i64 o.l.bt, .int .u16 o.l.j.ov, .int .u16 o.l.j.ox, .int .u16 o.l.j.ol, .int .i64 o.l.j.oe, .int .i64 o.l.j.ok, .int .u16 o.l.j.nv, .int .u16 o.l.j.nx, .int .u16 o.l.j.nl, .int .i64 o.l.j.ne, .int .i64 o.l.j.nk, .bool o.l.j.two, .slice po o.l.es.length co] 45 (0, 0)) := by rw [← hW2]; exact heap_last W1 _
  have HW2 := Lib.hid (HW1.out.keep bl)
  rw [hW2]
  obtain ⟨D, eD⟩ : ∃ x, W1.heap.size = x := ⟨_, rfl⟩
  (try rw [eD])
  rw [eD] at hD
  have HD := Lib.hid hD
  have hCD : C < D := by have := block_lt HW1.out.c; omega
  clear hW2 bl hD eD kA kC HW1
  have kA := block_cells HW2.out.a
  have kC := block_cells HW2.out.c
  have kD := block_cells HD.out
  go_cut [72] from 44 to 72 (fun c wx => c = .bool (snapB o n) ∧ wx = W2)
  case first =>
    by_cases h1 : n.l.b = o.l.b
    · have q1 : (n.l.b != o.l.b) = false := by simpa using h1
      by_cases h2 : n.l.bt = o.l.bt
      · have q2 : (n.l.bt != o.l.bt) = false := by simpa using h2
        by_cases h3 : n.l.j = o.l.j
        · have q3 : ∀ w, (binOp .neq 42 (.agg #[.int .u16 n.l.j.ov, .int .u16 n.l.j.ox, .int .u16 n.l.j.ol, .int .i64 n.l.j.oe, .int .i64 n.l.j.ok, .int .u16 n.l.j.nv, .int .u16 n.l.j.nx, .int .u16 n.l.j.nl, .int .i64 n.l.j.ne, .int .i64 n.l.j.nk, .bool n.l.j.two]) (.agg #[.int .u16 o.l.j.ov, .int .u16 o.l.j.ox, .int .u16 o.l.j.ol, .int .i64 o.l.j.oe, .int .i64 o.l.j.ok, .int .u16 o.l.j.nv, .int .u16 o.l.j.nx, .int .u16 o.l.j.nl, .int .i64 o.l.j.ne, .int .i64 o.l.j.nk, .bool o.l.j.two])).run Try.prog w = .ok (.bool false) w := fun w => by rw [run_neq_jn, decide_eq_true h3]; rfl
          by_cases h4 : n.sn = o.sn
          · have hb : snapB o n = false := by unfold snapB; simp [h1, h2, h3, h4]
            have q4 : (n.sn.toList != o.sn.toList) = false := by rw [h4]; simp
            have q5 : (n.sn.toList == o.sn.toList) = true := by rw [h4]; simp
            have HB := Lib.hid hb
            clear h1 h2 h3 h4 hb
            go_wp2_with fail
            go_meet
            case rel => exact ⟨by rw [HB.out], rfl⟩
          · have hb : snapB o n = true := by unfold snapB; simp [h4]
            have q5 := toList_neE h4
            have q4 : (n.sn.toList != o.sn.toList) = true := by unfold bne; rw [q5]; rfl
            have HB := Lib.hid hb
            clear h1 h2 h3 h4 hb
            go_wp2_with fail
            go_meet
            case rel => exact ⟨by rw [HB.out], rfl⟩
        · have hb : snapB o n = true := by unfold snapB; simp [h3]
          have q3 := joX_neq h3
          have HB := Lib.hid hb
          clear h1 h2 h3 hb
          go_wp2_with fail
          go_meet
          case rel => exact ⟨by rw [HB.out], rfl⟩
      · have hb : snapB o n = true := by unfold snapB; simp [h2]
        have q2 : (n.l.bt != o.l.bt) = true := by simpa using h2
        have HB := Lib.hid hb
        clear h1 h2 hb
        go_wp2_with fail
        go_meet
        case rel => exact ⟨by rw [HB.out], rfl⟩
    · have hb : snapB o n = true := by unfold snapB; simp [h1]
      have q1 : (n.l.b != o.l.b) = true := by simpa using h1
      have HB := Lib.hid hb
      clear h1 hb
      go_wp2_with fail
      go_meet
      case rel => exact ⟨by rw [HB.out], rfl⟩
  obtain ⟨rfl, hw⟩ := hcut
  rw [hw]
  clear hw wc
  obtain ⟨wl, hwl⟩ : ∃ x, wasL o n = x := ⟨_, rfl⟩
  have HWL := Lib.hid hwl
  clear hwl
  go_upto_if 72 with fail
  go_cut [7] from 72 to 115 (fun v wx => Hid (∃ M pw cw, M.map (·.2) = (if hardB o n = true then [recB 72 [r, n.tm, n.vt]] else []) ++ (if snapB o n = true then [recB 83 [r, n.l.b, n.l.bt] ++ encJo (joX n.l.j) ++ encT n.sn] else []) ∧ DfW w wx A C #[.int .i64 o.id, .int .i64 o.role, .int .i64 o.tm, .int .i64 o.vt, .int .i64 o.ld, .int .i64 o.wt, .int .i64 o.cm, .int .i64 o.sf, .int .i64 o.l.b, .int .i64 o.l.bt, .int .u16 o.l.j.ov, .int .u16 o.l.j.ox, .int .u16 o.l.j.ol, .int .i64 o.l.j.oe, .int .i64 o.l.j.ok, .int .u16 o.l.j.nv, .int .u16 o.l.j.nx, .int .u16 o.l.j.nl, .int .i64 o.l.j.ne, .int .i64 o.l.j.nk, .bool o.l.j.two, .slice po o.l.es.length co, .string o.sn, .int .u16 o.vs, .int .u16 o.hd, .int .i64 (o.nx 0), .int .i64 (o.nx 1), .int .i64 (o.nx 2), .int .i64 (o.nx 3), .int .i64 (o.nx 4), .int .i64 (o.nx 5), .int .i64 (o.nx 6), .int .i64 (o.nx 7), .int .i64 (o.nx 8), .int .i64 (o.nx 9), .int .i64 (o.mt 0), .int .i64 (o.mt 1), .int .i64 (o.mt 2), .int .i64 (o.mt 3), .int .i64 (o.mt 4), .int .i64 (o.mt 5), .int .i64 (o.mt 6), .int .i64 (o.mt 7), .int .i64 (o.mt 8), .int .i64 (o.mt 9)] #[.int .i64 n.id, .int .i64 n.role, .int .i64 n.tm, .int .i64 n.vt, .int .i64 n.ld, .int .i64 n.wt, .int .i64 n.cm, .int .i64 n.sf, .int .i64 n.l.b, .int .i64 n.l.bt, .int .u16 n.l.j.ov, .int .u16 n.l.j.ox, .int .u16 n.l.j.ol, .int .i64 n.l.j.oe, .int .i64 n.l.j.ok, .int .u16 n.l.j.nv, .int .u16 n.l.j.nx, .int .u16 n.l.j.nl, .int .i64 n.l.j.ne, .int .i64 n.l.j.nk, .bool n.l.j.two, .slice pn n.l.es.length cn, .string n.sn, .int .u16 n.vs, .int .u16 n.hd, .int .i64 (n.nx 0), .int .i64 (n.nx 1), .int .i64 (n.nx 2), .int .i64 (n.nx 3), .int .i64 (n.nx 4), .int .i64 (n.nx 5), .int .i64 (n.nx 6), .int .i64 (n.nx 7), .int .i64 (n.nx 8), .int .i64 (n.nx 9), .int .i64 (n.mt 0), .int .i64 (n.mt 1), .int .i64 (n.mt 2), .int .i64 (n.mt 3), .int .i64 (n.mt 4), .int .i64 (n.mt 5), .int .i64 (n.mt 6), .int .i64 (n.mt 7), .int .i64 (n.mt 8), .int .i64 (n.mt 9)] v M ∧ wx.heap[D]? = some (.cells #[.int .i64 wl.b, .int .i64 wl.bt, .int .u16 wl.j.ov, .int .u16 wl.j.ox, .int .u16 wl.j.ol, .int .i64 wl.j.oe, .int .i64 wl.j.ok, .int .u16 wl.j.nv, .int .u16 wl.j.nx, .int .u16 wl.j.nl, .int .i64 wl.j.ne, .int .i64 wl.j.nk, .bool wl.j.two, .slice pw wl.es.length cw] 45 (0, 0)) ∧ EnSl wx (.slice pw wl.es.length cw) wl.es ∧ LgFit wl))
  case first =>
    cases hb : snapB o n with
    | false =>
      have e : wl = o.l := by rw [← HWL.out]; unfold wasL; rw [hb]; simp
      subst e
      have HB := Lib.hid hb
      clear hb kA kC kD
      go_wp2_with fail
      go_meet
      case rel => exact ⟨M1, po, co, by rw [HM1.out, HB.out]; simp, HW2.out, HD.out, HEO.out.keep HW2.out.b (Nat.le_refl _), HFO.out⟩
    | true =>
      have HB := Lib.hid hb
      clear hb kA kC kD
      go_upto_region 6 with fail
      have h0 : Below W2.heap.size W2 W2.drew := (Below.refl _ _).drew
      have kC : ∀ w', Below W2.heap.size W2 w' → ∀ j, w'.cell? ⟨C, j, none⟩ = #[.int .i64 n.id, .int .i64 n.role, .int .i64 n.tm, .int .i64 n.vt, .int .i64 n.ld, .int .i64 n.wt, .int .i64 n.cm, .int .i64 n.sf, .int .i64 n.l.b, .int .i64 n.l.bt, .int .u16 n.l.j.ov, .int .u16 n.l.j.ox, .int .u16 n.l.j.ol, .int .i64 n.l.j.oe, .int .i64 n.l.j.ok, .int .u16 n.l.j.nv, .int .u16 n.l.j.nx, .int .u16 n.l.j.nl, .int .i64 n.l.j.ne, .int .i64 n.l.j.nk, .bool n.l.j.two, .slice pn n.l.es.length cn, .string n.sn, .int .u16 n.vs, .int .u16 n.hd, .int .i64 (n.nx 0), .int .i64 (n.nx 1), .int .i64 (n.nx 2), .int .i64 (n.nx 3), .int .i64 (n.nx 4), .int .i64 (n.nx 5), .int .i64 (n.nx 6), .int .i64 (n.nx 7), .int .i64 (n.nx 8), .int .i64 (n.nx 9), .int .i64 (n.mt 0), .int .i64 (n.mt 1), .int .i64 (n.mt 2), .int .i64 (n.mt 3), .int .i64 (n.mt 4), .int .i64 (n.mt 5), .int .i64 (n.mt 6), .int .i64 (n.mt 7), .int .i64 (n.mt 8), .int .i64 (n.mt 9)][j]? := fun w' h => block_cells (HW2.out.keep h).c
      refine wp_region_noPanic ?_
      refine wp_region_held_drew (S := fun w' => Below W2.heap.size W2 w') (by kernel_rfl) h0 (fun hHeld => ?_)
      obtain ⟨wd, ewd⟩ : ∃ x, W2.drew = x := ⟨_, rfl⟩
      rw [ewd] at h0 hHeld ⊢
      clear ewd
      refine wpAnyH_take (i := 0) (v := ?_) rfl (by kernel_rfl) (by kernel_rfl) (by kernel_rfl) (fun _ _ _ h => h) (Or.inl ⟨by rfl, ?_⟩) hHeld ?_
      rotate_left
      · (intro wz hSw; (try dsimp only at hSw); (try simp only [List.getElem_toArray, List.getElem_cons_zero]); go_simp; try with_reducible rfl)
      try simp only [List.getElem_toArray, List.getElem_cons_zero, Act.put, List.setIfInBounds_toArray, List.set_cons_zero, List.set_cons_succ]
      refine wpAnyH_take (i := 1) (v := ?_) rfl (by kernel_rfl) (by kernel_rfl) (by kernel_rfl) (fun _ _ _ h => h) (Or.inl ⟨by rfl, ?_⟩) hHeld ?_
      rotate_left
      · (intro wz hSw; (try dsimp only at hSw); (try simp only [List.getElem_toArray, List.getElem_cons_succ, List.getElem_cons_zero]); go_simp; try with_reducible rfl)
      try simp only [List.getElem_toArray, List.getElem_cons_succ, List.getElem_cons_zero, Act.put, List.setIfInBounds_toArray, List.set_cons_zero, List.set_cons_succ]
      refine wpAnyH_take (i := 2) (v := ?_) rfl (by kernel_rfl) (by kernel_rfl) (by kernel_rfl) (fun _ _ _ h => h) (Or.inl ⟨by rfl, ?_⟩) hHeld ?_
      rotate_left
      · (intro wz hSw; (try dsimp only at hSw); (try simp only [List.getElem_toArray, List.getElem_cons_succ, List.getElem_cons_zero]); go_simp; try with_reducible rfl)
      try simp only [List.getElem_toArray, List.getElem_cons_succ, List.getElem_cons_zero, Act.put, List.setIfInBounds_toArray, List.set_cons_zero, List.set_cons_succ]
      refine wpAnyH_take (i := 3) (v := ?_) rfl (by kernel_rfl) (by kernel_rfl) (by kernel_rfl) (fun _ _ _ h => h) (Or.inl ⟨by rfl, ?_⟩) hHeld ?_
      rotate_left
      · (intro wz hSw; (try dsimp only at hSw); (try simp only [List.getElem_toArray, List.getElem_cons_succ, List.getElem_cons_zero]); go_simp; try with_reducible rfl)
      try simp only [List.getElem_toArray, List.getElem_cons_succ, List.getElem_cons_zero, Act.put, List.setIfInBounds_toArray, List.set_cons_zero, List.set_cons_succ]
      refine wpAnyH_take (i := 4) (v := ?_) rfl (by kernel_rfl) (by kernel_rfl) (by kernel_rfl) (fun _ _ _ h => h) (Or.inl ⟨by rfl, ?_⟩) hHeld ?_
      rotate_left
      · (intro wz hSw; (try dsimp only at hSw); (try simp only [List.getElem_toArray, List.getElem_cons_succ, List.getElem_cons_zero]); go_simp; try with_reducible rfl)
      try simp only [List.getElem_toArray, List.getElem_cons_succ, List.getElem_cons_zero, Act.put, List.setIfInBounds_toArray, List.set_cons_zero, List.set_cons_succ]
      refine wpAnyH_take (i := 5) (v := ?_) rfl (by kernel_rfl) (by kernel_rfl) (by kernel_rfl) (fun _ _ _ h => h) (Or.inl ⟨by rfl, ?_⟩) hHeld ?_
      rotate_left
      · (intro wz hSw; (try dsimp only at hSw); (try simp only [List.getElem_toArray, List.getElem_cons_succ, List.getElem_cons_zero]); go_simp; try with_reducible rfl)
      try simp only [List.getElem_toArray, List.getElem_cons_succ, List.getElem_cons_zero, Act.put, List.setIfInBounds_toArray, List.set_cons_zero, List.set_cons_succ]
      refine wpAnyH_take (i := 6) (v := ?_) rfl (by kernel_rfl) (by kernel_rfl) (by kernel_rfl) (fun _ _ _ h => h) (Or.inl ⟨by rfl, ?_⟩) hHeld ?_
      rotate_left
      · (intro wz hSw; (try dsimp only at hSw); (try simp only [List.getElem_toArray, List.getElem_cons_succ, List.getElem_cons_zero]); go_simp; try with_reducible rfl)
      try simp only [List.getElem_toArray, List.getElem_cons_succ, List.getElem_cons_zero, Act.put, List.setIfInBounds_toArray, List.set_cons_zero, List.set_cons_succ]
      refine wpAnyH_take (i := 9) (v := ?_) rfl (by kernel_rfl) (by kernel_rfl) (by kernel_rfl) (fun _ _ _ h => h) (Or.inl ⟨by rfl, ?_⟩) hHeld ?_
      rotate_left
      · (intro wz hSw; (try dsimp only at hSw); (try simp only [List.getElem_toArray, List.getElem_cons_succ, List.getElem_cons_zero]); go_simp; try with_reducible rfl)
      try simp only [List.getElem_toArray, List.getElem_cons_succ, List.getElem_cons_zero, Act.put, List.setIfInBounds_toArray, List.set_cons_zero, List.set_cons_succ]
      refine wpAnyH_take (i := 10) (v := ?_) rfl (by kernel_rfl) (by kernel_rfl) (by kernel_rfl) (fun _ _ _ h => h) (Or.inl ⟨by rfl, ?_⟩) hHeld ?_
      rotate_left
      · (intro wz hSw; (try dsimp only at hSw); (try simp only [List.getElem_toArray, List.getElem_cons_succ, List.getElem_cons_zero]); go_simp; try with_reducible rfl)
      try simp only [List.getElem_toArray, List.getElem_cons_succ, List.getElem_cons_zero, Act.put, List.setIfInBounds_toArray, List.set_cons_zero, List.set_cons_succ]
      refine wpAnyH_take (i := 11) (v := ?_) rfl (by kernel_rfl) (by kernel_rfl) (by kernel_rfl) (fun _ _ _ h => h) (Or.inl ⟨by rfl, ?_⟩) hHeld ?_
      rotate_left
      · (intro wz hSw; (try dsimp only at hSw); (try simp only [List.getElem_toArray, List.getElem_cons_succ, List.getElem_cons_zero]); go_simp; try with_reducible rfl)
      try simp only [List.getElem_toArray, List.getElem_cons_succ, List.getElem_cons_zero, Act.put, List.setIfInBounds_toArray, List.set_cons_zero, List.set_cons_succ]
      refine wpAnyH_ready (rs := [7]) (by kernel_rfl) (by simp) ?_; refine AllReadyH.cons rfl (fun K hK => ?_) AllReadyH.nil; (try simp only [List.getElem_toArray, List.getElem_cons_succ, List.getElem_cons_zero]); go_simp
      obtain ⟨w1, ew⟩ : ∃ x : World, wd.alloc (.cells #[.int .i64 r, .int .i64 n.l.b, .int .i64 n.l.bt] 3) = x := ⟨_, rfl⟩
      have b1 : Below wd.heap.size wd w1 := by rw [← ew]; exact (Below.refl _ _).alloc (Nat.le_refl _) _
      have q1 : w1.heap[wd.heap.size]? = some (.cells #[.int .i64 r, .int .i64 n.l.b, .int .i64 n.l.bt] 3 (0, 0)) := by rw [← ew]; exact heap_last wd _
      rw [ew]
      obtain ⟨G, eG⟩ : ∃ x, wd.heap.size = x := ⟨_, rfl⟩
      (try rw [eG])
      rw [eG] at q1
      have s1 := h0.trans (b1.mono h0.size)
      refine hK.out _ _ s1 (fun _ => ?_)
      clear hK K hHeld ew eG
      try simp only [List.getElem_toArray, List.getElem_cons_succ, List.getElem_cons_zero, Act.put, List.setIfInBounds_toArray, List.set_cons_zero, List.set_cons_succ]
      have hHeld := s1
      refine wpAnyH_ready (rs := [8]) (by kernel_rfl) (by simp) ?_; refine AllReadyH.cons rfl (fun K hK => ?_) AllReadyH.nil; (try simp only [List.getElem_toArray, List.getElem_cons_succ, List.getElem_cons_zero]); go_simp
      have HI : Hid (∀ x ∈ [r, n.l.b, n.l.bt], In64 x) := fun x hx => by
        simp only [List.mem_cons, List.not_mem_nil, or_false] at hx
        rcases hx with rfl | rfl | rfl
        · exact HRI.out
        · have := HFN.out.b0; have := HFN.out.b1; unfold In64; omega
        · exact HN.out.bt
      have hrl : (recB 83 [r, n.l.b, n.l.bt]).length ≤ 31 := by have := recB_len (c := 83) HI.out; simpa using this
      refine (record_any 83 (some ⟨G, 0, none⟩) 3 [r, n.l.b, n.l.bt] w1 (nums_ofH q1) HI.out (by simp)).mono ?_; rintro r0 w2 ⟨v2, rfl, o2', b2⟩
      have o2 := o2'.mono s1.size
      have s2 := s1.trans (b2.mono s1.size)
      refine hK.out _ _ s2 (fun _ => ?_)
      clear hK K hHeld q1 o2'
      try simp only [List.getElem_toArray, List.getElem_cons_succ, List.getElem_cons_zero, Act.put, List.setIfInBounds_toArray, List.set_cons_zero, List.set_cons_succ]
      have hHeld := s2
      refine wpAnyH_ready (rs := [12]) (by kernel_rfl) (by simp) ?_; refine AllReadyH.cons rfl (fun K hK => ?_) AllReadyH.nil; (try simp only [List.getElem_toArray, List.getElem_cons_succ, List.getElem_cons_zero]); go_simp
      refine (wjoint_any (joX n.l.j) w2 HN.out.j).mono ?_; rintro r0 w3 ⟨v3, rfl, o3, b3⟩
      have o2' := own_keptH o2 b3
      have s3 := s2.trans (b3.mono s2.size)
      have hjl : (encJo (joX n.l.j)).length ≤ 200 := encJo_leH HN.out.j
      have hjm : 0 < (encJo (joX n.l.j)).length := by unfold encJo encF; rw [List.length_append, List.length_singleton]; omega
      refine hK.out _ _ s3 (fun _ => ?_)
      clear hK K hHeld o2
      try simp only [List.getElem_toArray, List.getElem_cons_succ, List.getElem_cons_zero, Act.put, List.setIfInBounds_toArray, List.set_cons_zero, List.set_cons_succ]
      have hHeld := s3
      obtain ⟨i1, hi1, hy0, hy1, hy2⟩ := info_parts Try.infoU8
      refine wpAnyH_ready (rs := [13]) (by kernel_rfl) (by simp) ?_; refine AllReadyH.cons rfl (fun K hK => ?_) AllReadyH.nil
      rw [if_pos (by rfl)]
      refine wp_append_row _ _ 32 (by rfl) W2.heap.size 5 i1 (.int .u8 0) 1 1 Try.underlying32 hi1 hy0 hy1 hy2 rfl (by decide) v2 (recB 83 [r, n.l.b, n.l.bt]).length (byt (recB 83 [r, n.l.b, n.l.bt])) (by rfl) o2' w3.heap.size v3 (encJo (joX n.l.j)).length (byt (encJo (joX n.l.j))) (by rfl) (Sl.of_own o3) hjm (byt_one _) (by unfold maxLen; omega) (by omega) s3.size ?_
      intro v4 w4 h2 h3 h4
      have s4 : Below W2.heap.size W2 w4 := s3.grown h3 s3.size (fun k hk => (o2'.lt k hk).1)
      have o4 : w4.ownsRow W2.heap.size 5 1 v4 (recB 83 [r, n.l.b, n.l.bt] ++ encJo (joX n.l.j)).length (byt (recB 83 [r, n.l.b, n.l.bt] ++ encJo (joX n.l.j))) := by
        rw [List.length_append, show byt (recB 83 [r, n.l.b, n.l.bt] ++ encJo (joX n.l.j)) = byt (recB 83 [r, n.l.b, n.l.bt]) ++ byt (encJo (joX n.l.j)) by simp [byt]]
        exact h2
      refine hK.out _ _ s4 (fun _ => ?_)
      clear hK K hHeld o2' o3 s3 b3 s2 b2 s1 b1 h2 h3 h4
      try simp only [List.getElem_toArray, List.getElem_cons_succ, List.getElem_cons_zero, Act.put, List.setIfInBounds_toArray, List.set_cons_zero, List.set_cons_succ]
      have hHeld := s4
      refine wpAnyH_take (i := 14) (v := ?_) rfl (by kernel_rfl) (by kernel_rfl) (by kernel_rfl) (fun _ _ _ h => h) (Or.inl ⟨by rfl, ?_⟩) hHeld ?_
      rotate_left
      · (intro wz hSw; (try dsimp only at hSw); (try simp only [List.getElem_toArray, List.getElem_cons_succ, List.getElem_cons_zero]); go_simp; try with_reducible rfl)
      try simp only [List.getElem_toArray, List.getElem_cons_succ, List.getElem_cons_zero, Act.put, List.setIfInBounds_toArray, List.set_cons_zero, List.set_cons_succ]
      refine wpAnyH_done (by kernel_rfl) ?_ _
      refine NoPanic.normal ?_
      clear hHeld kC
      obtain ⟨cu, w5, hcv, hs5, hb5⟩ := conv_bytes n.sn w4 (by have := HN.out.sn; unfold maxLen; omega)
      have s5 := s4.trans (hb5.mono s4.size)
      have o5 := own_keptH o4 hb5
      have kC := block_cells (HW2.out.keep s4).c
      have hsl : (txW n.sn).length ≤ 1000000 := by rw [txW_len]; exact HN.out.sn
      have HT := Lib.hid (text_any w5.heap.size v4 _ (recB 83 [r, n.l.b, n.l.bt] ++ encJo (joX n.l.j)) (txW n.sn) w5 (Sl.of_own o5) hs5 (Nat.le_refl _) (by rw [List.length_append]; omega))
      have HS5 := Lib.hid s5
      clear s4 o4 hb5 o5 s5 hs5 h0
      go_wp2_with fail
      refine HT.out.mono ?_; rintro r0 w6 ⟨v6, rfl, o6, b6⟩
      clear hcv kC
      have hX : recB 83 [r, n.l.b, n.l.bt] ++ encJo (joX n.l.j) ++ varN (txW n.sn).length ++ txW n.sn = recB 83 [r, n.l.b, n.l.bt] ++ encJo (joX n.l.j) ++ encT n.sn := by rw [txW_len]; simp [encT]
      rw [hX] at o6
      obtain ⟨X6, hX6⟩ : ∃ X, recB 83 [r, n.l.b, n.l.bt] ++ encJo (joX n.l.j) ++ encT n.sn = X := ⟨_, rfl⟩
      rw [hX6] at o6
      have HX6 := Lib.hid hX6
      have s6 := HS5.out.trans (b6.mono HS5.out.size)
      have HW6 := Lib.hid (HW2.out.keep s6)
      have HD6 := Lib.hid (below_block s6 (block_lt HD.out) HD.out)
      have ho1 := (o6.mono HS5.out.size).mono HW2.out.b.size
      have hb1 := Below.refl w6.heap.size w6
      have hm1 : M1.length ≤ 2 := by
        have := congrArg List.length HM1.out
        rw [List.length_map] at this
        cases hh : hardB o n with
        | true => rw [hh] at this; simp only [if_true, List.length_cons, List.length_nil] at this; omega
        | false => rw [hh] at this; simp only [Bool.false_eq_true, if_false, List.length_nil] at this; omega
      clear hX o6 b6 s6 HT HS5 hX6
      obtain ⟨px, cx, rfl, -⟩ := (Sl.of_own ho1).form
      have hbx : Below w6.heap.size w6 (w6.alloc (.cells #[.slice px (X6).length cx] 32)) := (Below.refl _ _).alloc (Nat.le_refl _) _
      have HWx := Lib.hid ((HW6.out.keep hb1).keep hbx)
      have HOx := Lib.hid (own_keptH ho1 hbx)
      have HQx : Hid ((w6.alloc (.cells #[.slice px (X6).length cx] 32)).heap[w6.heap.size]? = some (.cells #[.slice px (X6).length cx] 32 (0, 0))) := heap_last w6 _
      have HDx := Lib.hid (below_block hbx (block_lt HD6.out) HD6.out)
      clear hb1 ho1 hbx
      go_wp2_with (at_builtin; go_loud (refine wpList_append_sl_at rfl _ _ 23 rfl w.heap.size 32 i0 (.slice none 0 0) 1 24 Try.underlying23 hi0 hz0 hz1 hz2 rfl (by decide) v1 M1.length (M1.map (·.1)) rfl HWx.out.l.own _ _ 1 [.slice px (X6).length cx] rfl (sl_oneB HQx.out) (by intro u hu; rw [List.mem_singleton] at hu; rw [hu]; rfl) ?d1 ?d2 ?d3 ?_))
      case d1 => (try rw [HLEN.out]); (try simp only [List.length_nil]); unfold maxLen; omega
      case d2 => (try rw [HLEN.out]); (try simp only [List.length_nil]); omega
      case d3 => exact HWx.out.b.size
      intro vy wy h2 h3 h4
      have HW2 := Lib.hid (HWx.out.app HOx.out h2 h3)
      have HDy := Lib.hid (blk_keep HDx.out HWx.out.l.own (by decide) h3)
      clear h2 h3 h4 HWx HOx HQx
      obtain ⟨⟨T, b⟩, hT⟩ : ∃ x, termL o.l n.l.b = x := ⟨_, rfl⟩
      have hfn : -9223372036854775808 ≤ n.l.b ∧ n.l.b ≤ 9223372036854775807 := by have := HFN.out.b0; have := HFN.out.b1; omega
      have HTm := Lib.hid (term_is o.l po co wy HFO.out hfn (HEO.out.keep HW2.out.b (Nat.le_refl _)))
      rw [hT] at HTm
      have HTT := Lib.hid hT
      have kC := block_cells HW2.out.c
      have kD := block_cells HDy.out
      have HMy := Lib.hid (show (M1 ++ [(Value.slice px X6.length cx, X6)]).map (·.2) = (if hardB o n = true then [recB 72 [r, n.tm, n.vt]] else []) ++ (if snapB o n = true then [recB 83 [r, n.l.b, n.l.bt] ++ encJo (joX n.l.j) ++ encT n.sn] else []) by rw [List.map_append, HM1.out, HB.out, ← HX6.out]; rfl)
      clear hT hfn HX6
      go_wp2_with fail
      refine HTm.out.mono ?_; rintro r0 w7 ⟨rfl, hb7⟩
      have HW7 := Lib.hid (HW2.out.keep hb7)
      have HD7 := Lib.hid (below_block hb7 (block_lt HDy.out) HDy.out)
      clear hb7 kC kD HTm HW2 HDy
      have kC := block_cells HW7.out.c
      have kD := block_cells HD7.out
      have fD := block_free HD7.out
      by_cases hy : b = true ∧ T = n.l.bt
      · obtain ⟨rfl, rfl⟩ := hy
        have e : wl = o.l := by rw [← HWL.out]; unfold wasL; rw [HTT.out]; simp
        subst e
        go_wp2_with fail
        go_meet
        case rel => exact ⟨_, po, co, HMy.out, HW7.out, HD7.out, HEO.out.keep HW7.out.b (Nat.le_refl _), HFO.out⟩
      · have e : wl = ⟨n.l.b, 0, jn0, []⟩ := by
          have hne : (T, b) ≠ (n.l.bt, true) := fun h => by injection h with h1 h2; exact hy ⟨h2, h1⟩
          rw [← HWL.out]; unfold wasL; rw [HTT.out, if_pos ⟨HB.out, hne⟩]
        have HLZ : Hid (wl = ⟨n.l.b, 0, jn0, []⟩) := e
        have hzF := putL_at HD7.out [.int .i64 n.l.b, .int .i64 0, .int .u16 0, .int .u16 0, .int .u16 0, .int .i64 0, .int .i64 0, .int .u16 0, .int .u16 0, .int .u16 0, .int .i64 0, .int .i64 0, .bool false, .slice none 0 0] rfl
        have hgF := putL_gr' D [.int .i64 n.l.b, .int .i64 0, .int .u16 0, .int .u16 0, .int .u16 0, .int .i64 0, .int .i64 0, .int .u16 0, .int .u16 0, .int .u16 0, .int .i64 0, .int .i64 0, .bool false, .slice none 0 0] 0 w7
        obtain ⟨w8, ew8⟩ : ∃ x : World, putL D 0 [.int .i64 n.l.b, .int .i64 0, .int .u16 0, .int .u16 0, .int .u16 0, .int .i64 0, .int .i64 0, .int .u16 0, .int .u16 0, .int .u16 0, .int .i64 0, .int .i64 0, .bool false, .slice none 0 0] w7 = x := ⟨_, rfl⟩
        rw [ew8] at hgF
        have HW8 := Lib.hid (HW7.out.put HD7.out (by decide) (by decide) (by omega) (by omega) (by omega) hgF)
        have HD8 : Hid (w8.heap[D]? = some (.cells #[.int .i64 wl.b, .int .i64 wl.bt, .int .u16 wl.j.ov, .int .u16 wl.j.ox, .int .u16 wl.j.ol, .int .i64 wl.j.oe, .int .i64 wl.j.ok, .int .u16 wl.j.nv, .int .u16 wl.j.nx, .int .u16 wl.j.nl, .int .i64 wl.j.ne, .int .i64 wl.j.nk, .bool wl.j.two, .slice none wl.es.length 0] 45 (0, 0))) := by show _ = _; rw [HLZ.out, ← ew8]; exact hzF
        simp only [putL, Nat.reduceAdd, Nat.zero_add] at ew8
        have HEW := Lib.hid ew8
        clear hzF hgF ew8 e
        have hF8 : LgFit wl := by rw [HLZ.out]; exact ⟨HFN.out.b0, HFN.out.b1, Nat.zero_le _⟩
        have hE8 : EnSl w8 (.slice none wl.es.length 0) wl.es := by rw [HLZ.out]; exact ⟨rfl, .inl ⟨rfl, rfl⟩⟩
        have HF8 : Hid (LgFit wl) := hF8
        have HE8 := Lib.hid hE8
        clear hF8 hE8
        cases b with
        | false =>
          clear hy
          go_wp2_with fail
          go_meet
          case rel => rw [HEW.out]; exact ⟨_, none, 0, HMy.out, HW8.out, HD8.out, HE8.out, HF8.out⟩
        | true =>
          have hq : (T != n.l.bt) = true := by simp only [bne_iff_ne, ne_eq]; intro h; exact hy ⟨rfl, h⟩
          clear hy
          go_wp2_with fail
          go_meet
          case rel => rw [HEW.out]; exact ⟨_, none, 0, HMy.out, HW8.out, HD8.out, HE8.out, HF8.out⟩
  obtain ⟨v2, hv2⟩ : ∃ x, x = u7 := ⟨_, rfl⟩
  rw [← hv2] at hcut ⊢
  clear hv2
  obtain ⟨W3, rfl⟩ : ∃ x : World, x = wc := ⟨_, rfl⟩
  obtain ⟨M2, pw, cw, hM2, hW3, hD3, hE3, hF3⟩ := hcut.out
  have HM2 := Lib.hid hM2; have HW3 := Lib.hid hW3; have HD3 := Lib.hid hD3; have HE3 := Lib.hid hE3; have HF3 : Hid (LgFit wl) := hF3
  clear hM2 hW3 hD3 hE3 hF3 hcut kA kC kD HW2 HD HM1
  go_upto_region 11 with fail
  have h0 : Below W3.heap.size W3 W3.drew := (Below.refl _ _).drew
  have kC : ∀ w', Below W3.heap.size W3 w' → ∀ j, w'.cell? ⟨C, j, none⟩ = #[.int .i64 n.id, .int .i64 n.role, .int .i64 n.tm, .int .i64 n.vt, .int .i64 n.ld, .int .i64 n.wt, .int .i64 n.cm, .int .i64 n.sf, .int .i64 n.l.b, .int .i64 n.l.bt, .int .u16 n.l.j.ov, .int .u16 n.l.j.ox, .int .u16 n.l.j.ol, .int .i64 n.l.j.oe, .int .i64 n.l.j.ok, .int .u16 n.l.j.nv, .int .u16 n.l.j.nx, .int .u16 n.l.j.nl, .int .i64 n.l.j.ne, .int .i64 n.l.j.nk, .bool n.l.j.two, .slice pn n.l.es.length cn, .string n.sn, .int .u16 n.vs, .int .u16 n.hd, .int .i64 (n.nx 0), .int .i64 (n.nx 1), .int .i64 (n.nx 2), .int .i64 (n.nx 3), .int .i64 (n.nx 4), .int .i64 (n.nx 5), .int .i64 (n.nx 6), .int .i64 (n.nx 7), .int .i64 (n.nx 8), .int .i64 (n.nx 9), .int .i64 (n.mt 0), .int .i64 (n.mt 1), .int .i64 (n.mt 2), .int .i64 (n.mt 3), .int .i64 (n.mt 4), .int .i64 (n.mt 5), .int .i64 (n.mt 6), .int .i64 (n.mt 7), .int .i64 (n.mt 8), .int .i64 (n.mt 9)][j]? := fun w' h => block_cells (HW3.out.keep h).c
  refine wp_region_noPanic ?_
  refine wp_region_held_drew (S := fun w' => Below W3.heap.size W3 w') (by kernel_rfl) h0 (fun hHeld => ?_)
  obtain ⟨W4, ewd⟩ : ∃ x, W3.drew = x := ⟨_, rfl⟩
  rw [ewd] at h0 hHeld ⊢
  clear ewd
  refine wpAnyH_take (i := 0) (v := ?_) rfl (by kernel_rfl) (by kernel_rfl) (by kernel_rfl) (fun _ _ _ h => h) (Or.inl ⟨by rfl, ?_⟩) hHeld ?_
  rotate_left
  · (intro wz hSw; (try dsimp only at hSw); (try simp only [List.getElem_toArray, List.getElem_cons_zero]); go_simp; try with_reducible rfl)
  try simp only [List.getElem_toArray, List.getElem_cons_zero, Act.put, List.setIfInBounds_toArray, List.set_cons_zero, List.set_cons_succ]
  refine wpAnyH_take (i := 1) (v := ?_) rfl (by kernel_rfl) (by kernel_rfl) (by kernel_rfl) (fun _ _ _ h => h) (Or.inl ⟨by rfl, ?_⟩) hHeld ?_
  rotate_left
  · (intro wz hSw; (try dsimp only at hSw); (try simp only [List.getElem_toArray, List.getElem_cons_succ, List.getElem_cons_zero]); go_simp; try with_reducible rfl)
  try simp only [List.getElem_toArray, List.getElem_cons_succ, List.getElem_cons_zero, Act.put, List.setIfInBounds_toArray, List.set_cons_zero, List.set_cons_succ]
  refine wpAnyH_take (i := 2) (v := ?_) rfl (by kernel_rfl) (by kernel_rfl) (by kernel_rfl) (fun _ _ _ h => h) (Or.inl ⟨by rfl, ?_⟩) hHeld ?_
  rotate_left
  · (intro wz hSw; (try dsimp only at hSw); (try simp only [List.getElem_toArray, List.getElem_cons_succ, List.getElem_cons_zero]); go_simp; try with_reducible rfl)
  try simp only [List.getElem_toArray, List.getElem_cons_succ, List.getElem_cons_zero, Act.put, List.setIfInBounds_toArray, List.set_cons_zero, List.set_cons_succ]
  refine wpAnyH_take (i := 3) (v := ?_) rfl (by kernel_rfl) (by kernel_rfl) (by kernel_rfl) (fun _ _ _ h => h) (Or.inl ⟨by rfl, ?_⟩) hHeld ?_
  rotate_left
  · (intro wz hSw; (try dsimp only at hSw); (try simp only [List.getElem_toArray, List.getElem_cons_succ, List.getElem_cons_zero]); go_simp; try with_reducible rfl)
  try simp only [List.getElem_toArray, List.getElem_cons_succ, List.getElem_cons_zero, Act.put, List.setIfInBounds_toArray, List.set_cons_zero, List.set_cons_succ]
  refine wpAnyH_take (i := 4) (v := ?_) rfl (by kernel_rfl) (by kernel_rfl) (by kernel_rfl) (fun _ _ _ h => h) (Or.inl ⟨by rfl, ?_⟩) hHeld ?_
  rotate_left
  · (intro wz hSw; (try dsimp only at hSw); (try simp only [List.getElem_toArray, List.getElem_cons_succ, List.getElem_cons_zero]); go_simp; try with_reducible rfl)
  try simp only [List.getElem_toArray, List.getElem_cons_succ, List.getElem_cons_zero, Act.put, List.setIfInBounds_toArray, List.set_cons_zero, List.set_cons_succ]
  refine wpAnyH_done (by kernel_rfl) ?_ _
  refine NoPanic.normal ?_
  have HW4 := Lib.hid (HW3.out.keep h0)
  have HD4 := Lib.hid (below_block h0 (block_lt HD3.out) HD3.out)
  have HE4 := Lib.hid (HE3.out.keep h0 (Nat.le_refl _))
  clear hHeld kC HW3 HD3 HE3
  have kC := block_cells HW4.out.c
  go_upto_block 0 with fail
  have HB0 : Hid (Below W3.heap.size W3 W4) := h0
  clear h0
  go_cut [12] from 123 to 145 (fun s wx => s = .int .i64 (preN wl n.l.b n.l.es) ∧ Hid (DfW w wx A C #[.int .i64 o.id, .int .i64 o.role, .int .i64 o.tm, .int .i64 o.vt, .int .i64 o.ld, .int .i64 o.wt, .int .i64 o.cm, .int .i64 o.sf, .int .i64 o.l.b, .int .i64 o.l.bt, .int .u16 o.l.j.ov, .int .u16 o.l.j.ox, .int .u16 o.l.j.ol, .int .i64 o.l.j.oe, .int .i64 o.l.j.ok, .int .u16 o.l.j.nv, .int .u16 o.l.j.nx, .int .u16 o.l.j.nl, .int .i64 o.l.j.ne, .int .i64 o.l.j.nk, .bool o.l.j.two, .slice po o.l.es.length co, .string o.sn, .int .u16 o.vs, .int .u16 o.hd, .int .i64 (o.nx 0), .int .i64 (o.nx 1), .int .i64 (o.nx 2), .int .i64 (o.nx 3), .int .i64 (o.nx 4), .int .i64 (o.nx 5), .int .i64 (o.nx 6), .int .i64 (o.nx 7), .int .i64 (o.nx 8), .int .i64 (o.nx 9), .int .i64 (o.mt 0), .int .i64 (o.mt 1), .int .i64 (o.mt 2), .int .i64 (o.mt 3), .int .i64 (o.mt 4), .int .i64 (o.mt 5), .int .i64 (o.mt 6), .int .i64 (o.mt 7), .int .i64 (o.mt 8), .int .i64 (o.mt 9)] #[.int .i64 n.id, .int .i64 n.role, .int .i64 n.tm, .int .i64 n.vt, .int .i64 n.ld, .int .i64 n.wt, .int .i64 n.cm, .int .i64 n.sf, .int .i64 n.l.b, .int .i64 n.l.bt, .int .u16 n.l.j.ov, .int .u16 n.l.j.ox, .int .u16 n.l.j.ol, .int .i64 n.l.j.oe, .int .i64 n.l.j.ok, .int .u16 n.l.j.nv, .int .u16 n.l.j.nx, .int .u16 n.l.j.nl, .int .i64 n.l.j.ne, .int .i64 n.l.j.nk, .bool n.l.j.two, .slice pn n.l.es.length cn, .string n.sn, .int .u16 n.vs, .int .u16 n.hd, .int .i64 (n.nx 0), .int .i64 (n.nx 1), .int .i64 (n.nx 2), .int .i64 (n.nx 3), .int .i64 (n.nx 4), .int .i64 (n.nx 5), .int .i64 (n.nx 6), .int .i64 (n.nx 7), .int .i64 (n.nx 8), .int .i64 (n.nx 9), .int .i64 (n.mt 0), .int .i64 (n.mt 1), .int .i64 (n.mt 2), .int .i64 (n.mt 3), .int .i64 (n.mt 4), .int .i64 (n.mt 5), .int .i64 (n.mt 6), .int .i64 (n.mt 7), .int .i64 (n.mt 8), .int .i64 (n.mt 9)] v2 M2 ∧ wx.heap[D]? = some (.cells #[.int .i64 wl.b, .int .i64 wl.bt, .int .u16 wl.j.ov, .int .u16 wl.j.ox, .int .u16 wl.j.ol, .int .i64 wl.j.oe, .int .i64 wl.j.ok, .int .u16 wl.j.nv, .int .u16 wl.j.nx, .int .u16 wl.j.nl, .int .i64 wl.j.ne, .int .i64 wl.j.nk, .bool wl.j.two, .slice pw wl.es.length cw] 45 (0, 0)) ∧ Below W4.heap.size W4 wx))
  case first => as_aux_lemma =>
    have HO : Hid ((DfW w W4 A C #[.int .i64 o.id, .int .i64 o.role, .int .i64 o.tm, .int .i64 o.vt, .int .i64 o.ld, .int .i64 o.wt, .int .i64 o.cm, .int .i64 o.sf, .int .i64 o.l.b, .int .i64 o.l.bt, .int .u16 o.l.j.ov, .int .u16 o.l.j.ox, .int .u16 o.l.j.ol, .int .i64 o.l.j.oe, .int .i64 o.l.j.ok, .int .u16 o.l.j.nv, .int .u16 o.l.j.nx, .int .u16 o.l.j.nl, .int .i64 o.l.j.ne, .int .i64 o.l.j.nk, .bool o.l.j.two, .slice po o.l.es.length co, .string o.sn, .int .u16 o.vs, .int .u16 o.hd, .int .i64 (o.nx 0), .int .i64 (o.nx 1), .int .i64 (o.nx 2), .int .i64 (o.nx 3), .int .i64 (o.nx 4), .int .i64 (o.nx 5), .int .i64 (o.nx 6), .int .i64 (o.nx 7), .int .i64 (o.nx 8), .int .i64 (o.nx 9), .int .i64 (o.mt 0), .int .i64 (o.mt 1), .int .i64 (o.mt 2), .int .i64 (o.mt 3), .int .i64 (o.mt 4), .int .i64 (o.mt 5), .int .i64 (o.mt 6), .int .i64 (o.mt 7), .int .i64 (o.mt 8), .int .i64 (o.mt 9)] #[.int .i64 n.id, .int .i64 n.role, .int .i64 n.tm, .int .i64 n.vt, .int .i64 n.ld, .int .i64 n.wt, .int .i64 n.cm, .int .i64 n.sf, .int .i64 n.l.b, .int .i64 n.l.bt, .int .u16 n.l.j.ov, .int .u16 n.l.j.ox, .int .u16 n.l.j.ol, .int .i64 n.l.j.oe, .int .i64 n.l.j.ok, .int .u16 n.l.j.nv, .int .u16 n.l.j.nx, .int .u16 n.l.j.nl, .int .i64 n.l.j.ne, .int .i64 n.l.j.nk, .bool n.l.j.two, .slice pn n.l.es.length cn, .string n.sn, .int .u16 n.vs, .int .u16 n.hd, .int .i64 (n.nx 0), .int .i64 (n.nx 1), .int .i64 (n.nx 2), .int .i64 (n.nx 3), .int .i64 (n.nx 4), .int .i64 (n.nx 5), .int .i64 (n.nx 6), .int .i64 (n.nx 7), .int .i64 (n.nx 8), .int .i64 (n.nx 9), .int .i64 (n.mt 0), .int .i64 (n.mt 1), .int .i64 (n.mt 2), .int .i64 (n.mt 3), .int .i64 (n.mt 4), .int .i64 (n.mt 5), .int .i64 (n.mt 6), .int .i64 (n.mt 7), .int .i64 (n.mt 8), .int .i64 (n.mt 9)] v2 M2 ∧ W4.heap[D]? = some (.cells #[.int .i64 wl.b, .int .i64 wl.bt, .int .u16 wl.j.ov, .int .u16 wl.j.ox, .int .u16 wl.j.ol, .int .i64 wl.j.oe, .int .i64 wl.j.ok, .int .u16 wl.j.nv, .int .u16 wl.j.nx, .int .u16 wl.j.nl, .int .i64 wl.j.ne, .int .i64 wl.j.nk, .bool wl.j.two, .slice pw wl.es.length cw] 45 (0, 0)) ∧ Below W4.heap.size W4 W4) ∧ ∀ j, (h : j < 0) → ∃ h' : j < n.l.es.length, atL wl (n.l.b + (j : Int) + 1) = (n.l.es[j], true)) := ⟨⟨HW4.out, HD4.out, Below.refl _ _⟩, fun j h => absurd h (Nat.not_lt_zero j)⟩
    clear kC HW4 HD4 HB0
    go_wp2_with fail
    go_loopw [12, 123] (fun s i wr => ∃ k : Nat, k ≤ n.l.es.length ∧ s = .int .i64 k ∧ i = .int .i64 k ∧ Hid ((DfW w wr A C #[.int .i64 o.id, .int .i64 o.role, .int .i64 o.tm, .int .i64 o.vt, .int .i64 o.ld, .int .i64 o.wt, .int .i64 o.cm, .int .i64 o.sf, .int .i64 o.l.b, .int .i64 o.l.bt, .int .u16 o.l.j.ov, .int .u16 o.l.j.ox, .int .u16 o.l.j.ol, .int .i64 o.l.j.oe, .int .i64 o.l.j.ok, .int .u16 o.l.j.nv, .int .u16 o.l.j.nx, .int .u16 o.l.j.nl, .int .i64 o.l.j.ne, .int .i64 o.l.j.nk, .bool o.l.j.two, .slice po o.l.es.length co, .string o.sn, .int .u16 o.vs, .int .u16 o.hd, .int .i64 (o.nx 0), .int .i64 (o.nx 1), .int .i64 (o.nx 2), .int .i64 (o.nx 3), .int .i64 (o.nx 4), .int .i64 (o.nx 5), .int .i64 (o.nx 6), .int .i64 (o.nx 7), .int .i64 (o.nx 8), .int .i64 (o.nx 9), .int .i64 (o.mt 0), .int .i64 (o.mt 1), .int .i64 (o.mt 2), .int .i64 (o.mt 3), .int .i64 (o.mt 4), .int .i64 (o.mt 5), .int .i64 (o.mt 6), .int .i64 (o.mt 7), .int .i64 (o.mt 8), .int .i64 (o.mt 9)] #[.int .i64 n.id, .int .i64 n.role, .int .i64 n.tm, .int .i64 n.vt, .int .i64 n.ld, .int .i64 n.wt, .int .i64 n.cm, .int .i64 n.sf, .int .i64 n.l.b, .int .i64 n.l.bt, .int .u16 n.l.j.ov, .int .u16 n.l.j.ox, .int .u16 n.l.j.ol, .int .i64 n.l.j.oe, .int .i64 n.l.j.ok, .int .u16 n.l.j.nv, .int .u16 n.l.j.nx, .int .u16 n.l.j.nl, .int .i64 n.l.j.ne, .int .i64 n.l.j.nk, .bool n.l.j.two, .slice pn n.l.es.length cn, .string n.sn, .int .u16 n.vs, .int .u16 n.hd, .int .i64 (n.nx 0), .int .i64 (n.nx 1), .int .i64 (n.nx 2), .int .i64 (n.nx 3), .int .i64 (n.nx 4), .int .i64 (n.nx 5), .int .i64 (n.nx 6), .int .i64 (n.nx 7), .int .i64 (n.nx 8), .int .i64 (n.nx 9), .int .i64 (n.mt 0), .int .i64 (n.mt 1), .int .i64 (n.mt 2), .int .i64 (n.mt 3), .int .i64 (n.mt 4), .int .i64 (n.mt 5), .int .i64 (n.mt 6), .int .i64 (n.mt 7), .int .i64 (n.mt 8), .int .i64 (n.mt 9)] v2 M2 ∧ wr.heap[D]? = some (.cells #[.int .i64 wl.b, .int .i64 wl.bt, .int .u16 wl.j.ov, .int .u16 wl.j.ox, .int .u16 wl.j.ol, .int .i64 wl.j.oe, .int .i64 wl.j.ok, .int .u16 wl.j.nv, .int .u16 wl.j.nx, .int .u16 wl.j.nl, .int .i64 wl.j.ne, .int .i64 wl.j.nk, .bool wl.j.two, .slice pw wl.es.length cw] 45 (0, 0)) ∧ Below W4.heap.size W4 wr) ∧ ∀ j, (h : j < k) → ∃ h' : j < n.l.es.length, atL wl (n.l.b + (j : Int) + 1) = (n.l.es[j], true))) (fun _ i _ => n.l.es.length - (intOf i).toNat)
    case atStart => exact ⟨0, Nat.zero_le _, rfl, rfl, HO⟩
    case round =>
      clear HO
      obtain ⟨k, hk, rfl, rfl, HO⟩ := hrel
      obtain ⟨wk, rfl⟩ : ∃ wk : World, wk = wr := ⟨_, rfl⟩
      by_cases hlt : k < n.l.es.length
      · have hd : decide ((k : Int) < (n.l.es.length : Int)) = true := by simp; omega
        obtain ⟨ga, oa, ca, hva, hga, hca⟩ := (HEN.out.keep HO.out.1.1.b (Nat.le_refl _)).at k hlt
        obtain ⟨e, he⟩ : ∃ e, n.l.es[k] = e := ⟨_, rfl⟩
        rw [he] at hca
        simp only [Value.slice.injEq] at hva
        obtain ⟨rfl, -⟩ := hva
        have qa0 : wk.cell? ⟨ga, oa + k * 14, none⟩ = some (.int .i64 e.t) := hca 0 (by decide)
        have qa1 : wk.cell? ⟨ga, oa + k * 14 + 1, none⟩ = some (.int .i64 e.k) := hca 1 (by decide)
        have qa2 : wk.cell? ⟨ga, oa + k * 14 + 2, none⟩ = some (.string e.d) := hca 2 (by decide)
        have qa3 : wk.cell? ⟨ga, oa + k * 14 + 3, none⟩ = some (.int .u16 e.j.ov) := hca 3 (by decide)
        have qa4 : wk.cell? ⟨ga, oa + k * 14 + 4, none⟩ = some (.int .u16 e.j.ox) := hca 4 (by decide)
        have qa5 : wk.cell? ⟨ga, oa + k * 14 + 5, none⟩ = some (.int .u16 e.j.ol) := hca 5 (by decide)
        have qa6 : wk.cell? ⟨ga, oa + k * 14 + 6, none⟩ = some (.int .i64 e.j.oe) := hca 6 (by decide)
        have qa7 : wk.cell? ⟨ga, oa + k * 14 + 7, none⟩ = some (.int .i64 e.j.ok) := hca 7 (by decide)
        have qa8 : wk.cell? ⟨ga, oa + k * 14 + 8, none⟩ = some (.int .u16 e.j.nv) := hca 8 (by decide)
        have qa9 : wk.cell? ⟨ga, oa + k * 14 + 9, none⟩ = some (.int .u16 e.j.nx) := hca 9 (by decide)
        have qa10 : wk.cell? ⟨ga, oa + k * 14 + 10, none⟩ = some (.int .u16 e.j.nl) := hca 10 (by decide)
        have qa11 : wk.cell? ⟨ga, oa + k * 14 + 11, none⟩ = some (.int .i64 e.j.ne) := hca 11 (by decide)
        have qa12 : wk.cell? ⟨ga, oa + k * 14 + 12, none⟩ = some (.int .i64 e.j.nk) := hca 12 (by decide)
        have qa13 : wk.cell? ⟨ga, oa + k * 14 + 13, none⟩ = some (.bool e.j.two) := hca 13 (by decide)
        have HE := Lib.hid he
        clear hca he
        obtain ⟨⟨y, is⟩, hA⟩ : ∃ x, atL wl (n.l.b + (k : Int) + 1) = x := ⟨_, rfl⟩
        have HAT : Hid (atL wl (n.l.b + (k : Int) + 1) = (y, is)) := hA
        clear hA
        have hb0 := HFN.out.b0; have hb1 := HFN.out.b1; have hbn := HFN.out.n
        have hw1 : wrap64 (n.l.b + (k : Int)) = n.l.b + (k : Int) := by unfold wrap64; omega
        have hw2 : wrap64 (n.l.b + (k : Int) + 1) = n.l.b + (k : Int) + 1 := by unfold wrap64; omega
        go_upto_region 15 with fail
        obtain ⟨w1, hw⟩ : ∃ x : World, wk.alloc (.cells #[.int .i64 e.t, .int .i64 e.k, .string e.d, .int .u16 e.j.ov, .int .u16 e.j.ox, .int .u16 e.j.ol, .int .i64 e.j.oe, .int .i64 e.j.ok, .int .u16 e.j.nv, .int .u16 e.j.nx, .int .u16 e.j.nl, .int .i64 e.j.ne, .int .i64 e.j.nk, .bool e.j.two] 85) = x := ⟨_, rfl⟩
        have b1 : Below wk.heap.size wk w1 := by rw [← hw]; exact (Below.refl _ _).alloc (Nat.le_refl _) _
        have hX := heap_last wk (.cells #[.int .i64 e.t, .int .i64 e.k, .string e.d, .int .u16 e.j.ov, .int .u16 e.j.ox, .int .u16 e.j.ol, .int .i64 e.j.oe, .int .i64 e.j.ok, .int .u16 e.j.nv, .int .u16 e.j.nx, .int .u16 e.j.nl, .int .i64 e.j.ne, .int .i64 e.j.nk, .bool e.j.two] 85)
        rw [hw] at hX ⊢
        have hX1 : w1.heap[wk.heap.size]? = some (.cells #[.int .i64 e.t, .int .i64 e.k, .string e.d, .int .u16 e.j.ov, .int .u16 e.j.ox, .int .u16 e.j.ol, .int .i64 e.j.oe, .int .i64 e.j.ok, .int .u16 e.j.nv, .int .u16 e.j.nx, .int .u16 e.j.nl, .int .i64 e.j.ne, .int .i64 e.j.nk, .bool e.j.two] 85 (0, 0)) := hX
        obtain ⟨X, eX⟩ : ∃ x, wk.heap.size = x := ⟨_, rfl⟩
        (try rw [eX])
        rw [eX] at hX1
        have H1 := Lib.hid (HO.out.1.1.keep b1); have D1 := Lib.hid (below_block b1 (block_lt HO.out.1.2.1) HO.out.1.2.1)
        have HX1 := Lib.hid hX1
        have HB1 : Hid (Below W4.heap.size W4 w1) := HO.out.1.2.2.trans (b1.mono HO.out.1.2.2.size)
        clear hw hX hX1 eX qa0 qa1 qa2 qa3 qa4 qa5 qa6 qa7 qa8 qa9 qa10 qa11 qa12 qa13
        have kD := block_cells D1.out
        have HC := Lib.hid (at_any wl pw cw (n.l.b + (k : Int) + 1) w1 HF3.out.b0 HF3.out.b1 HF3.out.n (by omega) (by omega) (HE4.out.keep (HO.out.1.2.2.trans (b1.mono HO.out.1.2.2.size)) (Nat.le_refl _)) HAT)
        clear b1
        go_wp2_with fail
        refine HC.out.mono ?_; rintro r0 w2 ⟨rfl, b2⟩
        go_upto_region 16 with fail
        obtain ⟨w3, hw⟩ : ∃ x : World, w2.alloc (.cells #[.int .i64 y.t, .int .i64 y.k, .string y.d, .int .u16 y.j.ov, .int .u16 y.j.ox, .int .u16 y.j.ol, .int .i64 y.j.oe, .int .i64 y.j.ok, .int .u16 y.j.nv, .int .u16 y.j.nx, .int .u16 y.j.nl, .int .i64 y.j.ne, .int .i64 y.j.nk, .bool y.j.two] 85) = x := ⟨_, rfl⟩
        have b3 : Below w2.heap.size w2 w3 := by rw [← hw]; exact (Below.refl _ _).alloc (Nat.le_refl _) _
        have hY : w3.heap[w2.heap.size]? = some (.cells #[.int .i64 y.t, .int .i64 y.k, .string y.d, .int .u16 y.j.ov, .int .u16 y.j.ox, .int .u16 y.j.ol, .int .i64 y.j.oe, .int .i64 y.j.ok, .int .u16 y.j.nv, .int .u16 y.j.nx, .int .u16 y.j.nl, .int .i64 y.j.ne, .int .i64 y.j.nk, .bool y.j.two] 85 (0, 0)) := by rw [← hw]; exact heap_last w2 _
        rw [hw]
        obtain ⟨Y, eY⟩ : ∃ x, w2.heap.size = x := ⟨_, rfl⟩
        (try rw [eY])
        rw [eY] at hY
        have b23 := b2.trans (b3.mono b2.size)
        have H3 := Lib.hid (H1.out.keep b23); have D3 := Lib.hid (below_block b23 (block_lt D1.out) D1.out)
        have kX := block_cells (below_block b23 (block_lt HX1.out) HX1.out)
        have kY := block_cells hY
        have HB3 : Hid (Below W4.heap.size W4 w3) := HB1.out.trans (b23.mono HB1.out.size)
        clear hw b3 hY eY b2 b23 kD HC H1 D1 HX1
        cases is with
        | false =>
          have HP := Lib.hid (preN_at wl n.l.b n.l.es k HO.out.2 (fun h => by rw [HAT.out]; simp) hk)
          clear HO
          go_wp2_with fail
          go_meet
          case rel => exact ⟨by rw [HP.out], H3.out, D3.out, HB3.out⟩
        | true =>
          by_cases hey : e = y
          · subst hey
            have q := neq_ent_yes e
            have HO2 : Hid ((DfW w w3 A C _ _ v2 M2 ∧ w3.heap[D]? = some (.cells #[.int .i64 wl.b, .int .i64 wl.bt, .int .u16 wl.j.ov, .int .u16 wl.j.ox, .int .u16 wl.j.ol, .int .i64 wl.j.oe, .int .i64 wl.j.ok, .int .u16 wl.j.nv, .int .u16 wl.j.nx, .int .u16 wl.j.nl, .int .i64 wl.j.ne, .int .i64 wl.j.nk, .bool wl.j.two, .slice pw wl.es.length cw] 45 (0, 0)) ∧ Below W4.heap.size W4 w3) ∧ ∀ j, (h : j < k + 1) → ∃ h' : j < n.l.es.length, atL wl (n.l.b + (j : Int) + 1) = (n.l.es[j], true)) := ⟨⟨H3.out, D3.out, HB3.out⟩, fun j h => by
              rcases Nat.lt_or_ge j k with hj | hj
              · exact HO.out.2 j hj
              · obtain rfl : j = k := by omega
                exact ⟨hlt, by rw [HAT.out, HE.out]⟩⟩
            clear HO
            go_wp2_with fail
            go_roundw
            case rel => exact ⟨k + 1, by omega, by go_num, by go_num, HO2⟩
            case measure => simp [intOf]; omega
          · have HP := Lib.hid (preN_at wl n.l.b n.l.es k HO.out.2 (fun h => by rw [HAT.out, HE.out]; intro h2; injection h2 with h3; exact hey h3.symm) hk)
            have q := neq_ent_no hey
            clear HO hey
            go_wp2_with fail
            go_meet
            case rel => exact ⟨by rw [HP.out], H3.out, D3.out, HB3.out⟩
      · obtain rfl : k = n.l.es.length := by omega
        have hd : decide ((n.l.es.length : Int) < (n.l.es.length : Int)) = false := by simp
        have hp := preN_at wl n.l.b n.l.es n.l.es.length HO.out.2 (fun h => absurd h (Nat.lt_irrefl _)) (Nat.le_refl _)
        have HP := Lib.hid hp
        clear hp
        go_wp2_with fail
        go_meet
        case rel => exact ⟨by rw [HP.out], HO.out.1⟩
  obtain ⟨rfl, hst⟩ := hcut
  obtain ⟨W5, rfl⟩ : ∃ x : World, x = wc := ⟨_, rfl⟩
  obtain ⟨hW5, hD5, hB5⟩ := hst.out
  have hKl := preN_le wl n.l.b n.l.es
  obtain ⟨K, hK0⟩ : ∃ x, preN wl n.l.b n.l.es = x := ⟨_, rfl⟩
  rw [hK0] at hKl ⊢
  have HKP := Lib.hid hK0
  have HW5 := Lib.hid hW5; have HD5 := Lib.hid hD5
  clear hst hW5 hD5 hB5 hK0 kC HW4 HD4 HE4 HB0
  have kD := block_cells HD5.out
  have hb0 := HFN.out.b0; have hb1 := HFN.out.b1; have hbn := HFN.out.n
  have hw1 : wrap64 (n.l.b + (K : Int)) = n.l.b + (K : Int) := by unfold wrap64; omega
  have HCB : Hid (cutB o n = decide (n.l.b + (K : Int) < wl.last)) := by show _ = _; unfold cutB; rw [HWL.out, HKP.out]
  go_wp2_with fail
  refine (last_any wl pw cw W5 HF3.out.b0 HF3.out.b1 HF3.out.n).mono ?_; rintro r0 w6 ⟨rfl, b6⟩
  have HW6 := Lib.hid (HW5.out.keep b6)
  clear b6 kD HW5 HD5
  go_upto_if 151 with fail
  go_cut [7] from 146 to 160 (fun v wx => Hid (∃ M, M.map (·.2) = (if hardB o n = true then [recB 72 [r, n.tm, n.vt]] else []) ++ (if snapB o n = true then [recB 83 [r, n.l.b, n.l.bt] ++ encJo (joX n.l.j) ++ encT n.sn] else []) ++ (if cutB o n = true then [recB 88 [r, n.l.b + preN (wasL o n) n.l.b n.l.es]] else []) ∧ DfW w wx A C #[.int .i64 o.id, .int .i64 o.role, .int .i64 o.tm, .int .i64 o.vt, .int .i64 o.ld, .int .i64 o.wt, .int .i64 o.cm, .int .i64 o.sf, .int .i64 o.l.b, .int .i64 o.l.bt, .int .u16 o.l.j.ov, .int .u16 o.l.j.ox, .int .u16 o.l.j.ol, .int .i64 o.l.j.oe, .int .i64 o.l.j.ok, .int .u16 o.l.j.nv, .int .u16 o.l.j.nx, .int .u16 o.l.j.nl, .int .i64 o.l.j.ne, .int .i64 o.l.j.nk, .bool o.l.j.two, .slice po o.l.es.length co, .string o.sn, .int .u16 o.vs, .int .u16 o.hd, .int .i64 (o.nx 0), .int .i64 (o.nx 1), .int .i64 (o.nx 2), .int .i64 (o.nx 3), .int .i64 (o.nx 4), .int .i64 (o.nx 5), .int .i64 (o.nx 6), .int .i64 (o.nx 7), .int .i64 (o.nx 8), .int .i64 (o.nx 9), .int .i64 (o.mt 0), .int .i64 (o.mt 1), .int .i64 (o.mt 2), .int .i64 (o.mt 3), .int .i64 (o.mt 4), .int .i64 (o.mt 5), .int .i64 (o.mt 6), .int .i64 (o.mt 7), .int .i64 (o.mt 8), .int .i64 (o.mt 9)] #[.int .i64 n.id, .int .i64 n.role, .int .i64 n.tm, .int .i64 n.vt, .int .i64 n.ld, .int .i64 n.wt, .int .i64 n.cm, .int .i64 n.sf, .int .i64 n.l.b, .int .i64 n.l.bt, .int .u16 n.l.j.ov, .int .u16 n.l.j.ox, .int .u16 n.l.j.ol, .int .i64 n.l.j.oe, .int .i64 n.l.j.ok, .int .u16 n.l.j.nv, .int .u16 n.l.j.nx, .int .u16 n.l.j.nl, .int .i64 n.l.j.ne, .int .i64 n.l.j.nk, .bool n.l.j.two, .slice pn n.l.es.length cn, .string n.sn, .int .u16 n.vs, .int .u16 n.hd, .int .i64 (n.nx 0), .int .i64 (n.nx 1), .int .i64 (n.nx 2), .int .i64 (n.nx 3), .int .i64 (n.nx 4), .int .i64 (n.nx 5), .int .i64 (n.nx 6), .int .i64 (n.nx 7), .int .i64 (n.nx 8), .int .i64 (n.nx 9), .int .i64 (n.mt 0), .int .i64 (n.mt 1), .int .i64 (n.mt 2), .int .i64 (n.mt 3), .int .i64 (n.mt 4), .int .i64 (n.mt 5), .int .i64 (n.mt 6), .int .i64 (n.mt 7), .int .i64 (n.mt 8), .int .i64 (n.mt 9)] v M))
  case first =>
    by_cases hc : n.l.b + (K : Int) < wl.last
    · have hd : decide (n.l.b + (K : Int) < wl.last) = true := by simpa using hc
      have HB := Lib.hid (HCB.out.trans hd)
      have bl : Below w6.heap.size w6 (w6.alloc (.cells #[.int .i64 r, .int .i64 (n.l.b + (K : Int))] 3)) := (Below.refl _ _).alloc (Nat.le_refl _) _
      have HC := Lib.hid (record_any 88 (some ⟨w6.heap.size, 0, none⟩) 2 [r, n.l.b + (K : Int)] (w6.alloc (.cells #[.int .i64 r, .int .i64 (n.l.b + (K : Int))] 3)) (nums_ofH (t := 3) (heap_last w6 _)) (fun y hy => by
        simp only [List.mem_cons, List.not_mem_nil, or_false] at hy
        rcases hy with rfl | rfl
        · exact HRI.out
        · unfold In64; omega) (by simp))
      have HW7 := Lib.hid (HW6.out.keep bl)
      have hm1 : M2.length ≤ 2 := by
        have := congrArg List.length HM2.out
        rw [List.length_map, List.length_append] at this
        cases hh : hardB o n <;> cases hg : snapB o n <;> rw [hh, hg] at this <;> simp only [if_true, Bool.false_eq_true, if_false, List.length_cons, List.length_nil] at this <;> omega
      clear bl
      go_wp2_with fail
      refine HC.out.mono ?_; rintro e w1 ⟨v3, rfl, ho1', hb1⟩
      have ho1 := ho1'.mono HW7.out.b.size
      clear ho1'
      obtain ⟨px, cx, rfl, -⟩ := (Sl.of_own ho1).form
      have hbx : Below w1.heap.size w1 (w1.alloc (.cells #[.slice px (recB 88 [r, n.l.b + (K : Int)]).length cx] 32)) := (Below.refl _ _).alloc (Nat.le_refl _) _
      have HWx := Lib.hid ((HW7.out.keep hb1).keep hbx)
      have HOx := Lib.hid (own_keptH ho1 hbx)
      have HQx : Hid ((w1.alloc (.cells #[.slice px (recB 88 [r, n.l.b + (K : Int)]).length cx] 32)).heap[w1.heap.size]? = some (.cells #[.slice px (recB 88 [r, n.l.b + (K : Int)]).length cx] 32 (0, 0))) := heap_last w1 _
      clear hb1 ho1 hbx
      go_wp2_with (at_builtin; go_loud (refine wpList_append_sl_at rfl _ _ 23 rfl w.heap.size 32 i0 (.slice none 0 0) 1 24 Try.underlying23 hi0 hz0 hz1 hz2 rfl (by decide) v2 M2.length (M2.map (·.1)) rfl HWx.out.l.own _ _ 1 [.slice px (recB 88 [r, n.l.b + (K : Int)]).length cx] rfl (sl_oneB HQx.out) (by intro u hu; rw [List.mem_singleton] at hu; rw [hu]; rfl) ?d1 ?d2 ?d3 ?_))
      case d1 => (try rw [HLEN.out]); (try simp only [List.length_nil]); unfold maxLen; omega
      case d2 => (try rw [HLEN.out]); (try simp only [List.length_nil]); omega
      case d3 => exact HWx.out.b.size
      intro vy wy h2 h3 h4
      have HW2 := Lib.hid (HWx.out.app HOx.out h2 h3)
      clear h2 h3 h4 HWx HOx HQx
      go_wp2_with fail
      go_meet
      case rel => exact ⟨_, by rw [List.map_append, HM2.out, HB.out, HWL.out, HKP.out]; rfl, HW2.out⟩
    · have hd : decide (n.l.b + (K : Int) < wl.last) = false := by simpa using hc
      have HB := Lib.hid (HCB.out.trans hd)
      go_wp2_with fail
      go_meet
      case rel => exact ⟨M2, by rw [HM2.out, HB.out]; simp, HW6.out⟩
  obtain ⟨v3, hv3⟩ : ∃ x, x = u7 := ⟨_, rfl⟩
  rw [← hv3] at hcut ⊢
  clear hv3
  obtain ⟨W7, rfl⟩ : ∃ x : World, x = wc := ⟨_, rfl⟩
  obtain ⟨M3, hM3, hW7⟩ := hcut.out
  have HM3 := Lib.hid hM3; have HW7 := Lib.hid hW7
  clear hM3 hW7 hcut HM2 HW6 HCB hw1
  have kC := block_cells HW7.out.c
  obtain ⟨pp, cc, he, hc1, hc2⟩ := HEN.out.form
  simp only [Value.slice.injEq] at he
  obtain ⟨-, -, hcc⟩ := he
  rw [← hcc] at hc1 hc2
  clear hcc
  have hKi : (K : Int) ≤ (n.l.es.length : Int) := by omega
  have hKc : (K : Int) ≤ (cn : Int) := by omega
  have hK0 : 0 ≤ (K : Int) := by omega
  have hlc : (n.l.es.length : Int) ≤ (cn : Int) := by omega
  go_upto_region 21 with fail
  go_cut [165, 166, 167] from 161 to 167 (fun a b c wx => ∃ q c', a = .slice q (n.l.es.drop K).length c' ∧ EnSl w (.slice q (n.l.es.drop K).length c') (n.l.es.drop K) ∧ b = .int .i64 (n.l.es.drop K).length ∧ c = .int .i64 0 ∧ wx = W7)
  case first =>
    by_cases hcK : cn = K
    · subst hcK
      have hE0 := EnSl.drop0 (w := w) (q := pn) (c' := 0) (L := n.l.es) (k := cn) hc1 (Nat.zero_le _) (fun _ => rfl)
      rw [List.length_drop] at hE0
      have HE0 := Lib.hid hE0
      clear hE0
      go_wp2_with fail
      all_goals (go_meet; case rel => rw [List.length_drop]; exact ⟨pn, 0, by first | rfl | (simp; omega), HE0.out, by first | rfl | (congr 1; omega), rfl, rfl⟩)
    · have hE0 := EnSl.drop (HEN.out) hKl
      rw [List.length_drop] at hE0
      have HE0 := Lib.hid hE0
      clear hE0
      go_wp2_with fail
      all_goals (go_meet; case rel => rw [List.length_drop]; exact ⟨_, _, rfl, HE0.out, by first | rfl | (congr 1; omega), rfl, rfl⟩)
  obtain ⟨q, c5, rfl, hE5, rfl, rfl, hw⟩ := hcut
  rw [hw]
  clear hw wc kC
  obtain ⟨L, hL⟩ : ∃ x, n.l.es.drop K = x := ⟨_, rfl⟩
  rw [hL] at hE5 ⊢
  have HE5 := Lib.hid hE5; have HL := Lib.hid hL
  have hLn : L.length ≤ 1000000 := by rw [← hL, List.length_drop]; omega
  have HLm : Hid (∀ e ∈ L, In64 e.t ∧ In64 e.k ∧ JoF (joX e.j) ∧ e.d.size ≤ 1000000) := fun e he => HN.out.es e (by rw [← hL] at he; exact List.mem_of_mem_drop he)
  have HO : Hid (∃ M, M.map (·.2) = ((if hardB o n = true then [recB 72 [r, n.tm, n.vt]] else []) ++ (if snapB o n = true then [recB 83 [r, n.l.b, n.l.bt] ++ encJo (joX n.l.j) ++ encT n.sn] else []) ++ (if cutB o n = true then [recB 88 [r, n.l.b + preN (wasL o n) n.l.b n.l.es]] else [])) ++ entsB r (n.l.b + (K : Int) + 1) (L.take 0) ∧ DfW w W7 A C #[.int .i64 o.id, .int .i64 o.role, .int .i64 o.tm, .int .i64 o.vt, .int .i64 o.ld, .int .i64 o.wt, .int .i64 o.cm, .int .i64 o.sf, .int .i64 o.l.b, .int .i64 o.l.bt, .int .u16 o.l.j.ov, .int .u16 o.l.j.ox, .int .u16 o.l.j.ol, .int .i64 o.l.j.oe, .int .i64 o.l.j.ok, .int .u16 o.l.j.nv, .int .u16 o.l.j.nx, .int .u16 o.l.j.nl, .int .i64 o.l.j.ne, .int .i64 o.l.j.nk, .bool o.l.j.two, .slice po o.l.es.length co, .string o.sn, .int .u16 o.vs, .int .u16 o.hd, .int .i64 (o.nx 0), .int .i64 (o.nx 1), .int .i64 (o.nx 2), .int .i64 (o.nx 3), .int .i64 (o.nx 4), .int .i64 (o.nx 5), .int .i64 (o.nx 6), .int .i64 (o.nx 7), .int .i64 (o.nx 8), .int .i64 (o.nx 9), .int .i64 (o.mt 0), .int .i64 (o.mt 1), .int .i64 (o.mt 2), .int .i64 (o.mt 3), .int .i64 (o.mt 4), .int .i64 (o.mt 5), .int .i64 (o.mt 6), .int .i64 (o.mt 7), .int .i64 (o.mt 8), .int .i64 (o.mt 9)] #[.int .i64 n.id, .int .i64 n.role, .int .i64 n.tm, .int .i64 n.vt, .int .i64 n.ld, .int .i64 n.wt, .int .i64 n.cm, .int .i64 n.sf, .int .i64 n.l.b, .int .i64 n.l.bt, .int .u16 n.l.j.ov, .int .u16 n.l.j.ox, .int .u16 n.l.j.ol, .int .i64 n.l.j.oe, .int .i64 n.l.j.ok, .int .u16 n.l.j.nv, .int .u16 n.l.j.nx, .int .u16 n.l.j.nl, .int .i64 n.l.j.ne, .int .i64 n.l.j.nk, .bool n.l.j.two, .slice pn n.l.es.length cn, .string n.sn, .int .u16 n.vs, .int .u16 n.hd, .int .i64 (n.nx 0), .int .i64 (n.nx 1), .int .i64 (n.nx 2), .int .i64 (n.nx 3), .int .i64 (n.nx 4), .int .i64 (n.nx 5), .int .i64 (n.nx 6), .int .i64 (n.nx 7), .int .i64 (n.nx 8), .int .i64 (n.nx 9), .int .i64 (n.mt 0), .int .i64 (n.mt 1), .int .i64 (n.mt 2), .int .i64 (n.mt 3), .int .i64 (n.mt 4), .int .i64 (n.mt 5), .int .i64 (n.mt 6), .int .i64 (n.mt 7), .int .i64 (n.mt 8), .int .i64 (n.mt 9)] v3 M) := ⟨M3, by rw [HM3.out]; simp [entsB], HW7.out⟩
  clear hE5 hL hc1 hc2 hKi hKc hlc HM3
  go_wp2_with fail
  go_loopw [7, 167] (fun u i wr => ∃ k : Nat, k ≤ L.length ∧ i = .int .i64 k ∧ Hid (∃ M, M.map (·.2) = ((if hardB o n = true then [recB 72 [r, n.tm, n.vt]] else []) ++ (if snapB o n = true then [recB 83 [r, n.l.b, n.l.bt] ++ encJo (joX n.l.j) ++ encT n.sn] else []) ++ (if cutB o n = true then [recB 88 [r, n.l.b + preN (wasL o n) n.l.b n.l.es]] else [])) ++ entsB r (n.l.b + (K : Int) + 1) (L.take k) ∧ DfW w wr A C #[.int .i64 o.id, .int .i64 o.role, .int .i64 o.tm, .int .i64 o.vt, .int .i64 o.ld, .int .i64 o.wt, .int .i64 o.cm, .int .i64 o.sf, .int .i64 o.l.b, .int .i64 o.l.bt, .int .u16 o.l.j.ov, .int .u16 o.l.j.ox, .int .u16 o.l.j.ol, .int .i64 o.l.j.oe, .int .i64 o.l.j.ok, .int .u16 o.l.j.nv, .int .u16 o.l.j.nx, .int .u16 o.l.j.nl, .int .i64 o.l.j.ne, .int .i64 o.l.j.nk, .bool o.l.j.two, .slice po o.l.es.length co, .string o.sn, .int .u16 o.vs, .int .u16 o.hd, .int .i64 (o.nx 0), .int .i64 (o.nx 1), .int .i64 (o.nx 2), .int .i64 (o.nx 3), .int .i64 (o.nx 4), .int .i64 (o.nx 5), .int .i64 (o.nx 6), .int .i64 (o.nx 7), .int .i64 (o.nx 8), .int .i64 (o.nx 9), .int .i64 (o.mt 0), .int .i64 (o.mt 1), .int .i64 (o.mt 2), .int .i64 (o.mt 3), .int .i64 (o.mt 4), .int .i64 (o.mt 5), .int .i64 (o.mt 6), .int .i64 (o.mt 7), .int .i64 (o.mt 8), .int .i64 (o.mt 9)] #[.int .i64 n.id, .int .i64 n.role, .int .i64 n.tm, .int .i64 n.vt, .int .i64 n.ld, .int .i64 n.wt, .int .i64 n.cm, .int .i64 n.sf, .int .i64 n.l.b, .int .i64 n.l.bt, .int .u16 n.l.j.ov, .int .u16 n.l.j.ox, .int .u16 n.l.j.ol, .int .i64 n.l.j.oe, .int .i64 n.l.j.ok, .int .u16 n.l.j.nv, .int .u16 n.l.j.nx, .int .u16 n.l.j.nl, .int .i64 n.l.j.ne, .int .i64 n.l.j.nk, .bool n.l.j.two, .slice pn n.l.es.length cn, .string n.sn, .int .u16 n.vs, .int .u16 n.hd, .int .i64 (n.nx 0), .int .i64 (n.nx 1), .int .i64 (n.nx 2), .int .i64 (n.nx 3), .int .i64 (n.nx 4), .int .i64 (n.nx 5), .int .i64 (n.nx 6), .int .i64 (n.nx 7), .int .i64 (n.nx 8), .int .i64 (n.nx 9), .int .i64 (n.mt 0), .int .i64 (n.mt 1), .int .i64 (n.mt 2), .int .i64 (n.mt 3), .int .i64 (n.mt 4), .int .i64 (n.mt 5), .int .i64 (n.mt 6), .int .i64 (n.mt 7), .int .i64 (n.mt 8), .int .i64 (n.mt 9)] u M)) (fun _ i _ => L.length - (intOf i).toNat)
  case atStart => exact ⟨0, Nat.zero_le _, rfl, HO⟩
  case round =>
    clear HO
    obtain ⟨k, hk, rfl, HO⟩ := hrel
    obtain ⟨wk, rfl⟩ : ∃ wk : World, wk = wr := ⟨_, rfl⟩
    obtain ⟨vk, rfl⟩ : ∃ vk : Value, vk = u7 := ⟨_, rfl⟩
    by_cases hlt : k < L.length
    · have hd : decide ((k : Int) < (L.length : Int)) = true := by simp; omega
      obtain ⟨M, hM, hWk⟩ := HO.out
      have HM := Lib.hid hM; have HWk := Lib.hid hWk
      obtain ⟨ga, oa, ca, hva, hga, hca⟩ := (HE5.out.keep hWk.b (Nat.le_refl _)).at k hlt
      obtain ⟨e, he⟩ : ∃ e, L[k] = e := ⟨_, rfl⟩
      rw [he] at hca
      simp only [Value.slice.injEq] at hva
      obtain ⟨rfl, -⟩ := hva
      have qa0 : wk.cell? ⟨ga, oa + k * 14, none⟩ = some (.int .i64 e.t) := hca 0 (by decide)
      have qa1 : wk.cell? ⟨ga, oa + k * 14 + 1, none⟩ = some (.int .i64 e.k) := hca 1 (by decide)
      have qa2 : wk.cell? ⟨ga, oa + k * 14 + 2, none⟩ = some (.string e.d) := hca 2 (by decide)
      have qa3 : wk.cell? ⟨ga, oa + k * 14 + 3, none⟩ = some (.int .u16 e.j.ov) := hca 3 (by decide)
      have qa4 : wk.cell? ⟨ga, oa + k * 14 + 4, none⟩ = some (.int .u16 e.j.ox) := hca 4 (by decide)
      have qa5 : wk.cell? ⟨ga, oa + k * 14 + 5, none⟩ = some (.int .u16 e.j.ol) := hca 5 (by decide)
      have qa6 : wk.cell? ⟨ga, oa + k * 14 + 6, none⟩ = some (.int .i64 e.j.oe) := hca 6 (by decide)
      have qa7 : wk.cell? ⟨ga, oa + k * 14 + 7, none⟩ = some (.int .i64 e.j.ok) := hca 7 (by decide)
      have qa8 : wk.cell? ⟨ga, oa + k * 14 + 8, none⟩ = some (.int .u16 e.j.nv) := hca 8 (by decide)
      have qa9 : wk.cell? ⟨ga, oa + k * 14 + 9, none⟩ = some (.int .u16 e.j.nx) := hca 9 (by decide)
      have qa10 : wk.cell? ⟨ga, oa + k * 14 + 10, none⟩ = some (.int .u16 e.j.nl) := hca 10 (by decide)
      have qa11 : wk.cell? ⟨ga, oa + k * 14 + 11, none⟩ = some (.int .i64 e.j.ne) := hca 11 (by decide)
      have qa12 : wk.cell? ⟨ga, oa + k * 14 + 12, none⟩ = some (.int .i64 e.j.nk) := hca 12 (by decide)
      have qa13 : wk.cell? ⟨ga, oa + k * 14 + 13, none⟩ = some (.bool e.j.two) := hca 13 (by decide)
      have HE := Lib.hid he
      have hef := HLm.out e (by rw [← he]; exact List.getElem_mem hlt)
      have hML : M.length ≤ 1000003 := by
        have := congrArg List.length hM
        rw [List.length_map, List.length_append, List.length_append, List.length_append, entsB_len, List.length_take] at this
        have hif : ∀ (b : Bool) (x : List Int), (if b = true then [x] else []).length ≤ 1 := fun b x => by cases b <;> simp
        have := hif (hardB o n) (recB 72 [r, n.tm, n.vt]); have := hif (snapB o n) (recB 83 [r, n.l.b, n.l.bt] ++ encJo (joX n.l.j) ++ encT n.sn); have := hif (cutB o n) (recB 88 [r, n.l.b + preN (wasL o n) n.l.b n.l.es])
        omega
      clear hca he hM hWk HO
      have hw1 : wrap64 (n.l.b + (K : Int)) = n.l.b + (K : Int) := by unfold wrap64; omega
      have hw2 : wrap64 (n.l.b + (K : Int) + (k : Int)) = n.l.b + (K : Int) + (k : Int) := by unfold wrap64; omega
      have hw3 : wrap64 (n.l.b + (K : Int) + (k : Int) + 1) = n.l.b + (K : Int) + (k : Int) + 1 := by unfold wrap64; omega
      go_upto_region 24 with fail
      obtain ⟨w1, hw⟩ : ∃ x : World, wk.alloc (.cells #[.int .i64 e.t, .int .i64 e.k, .string e.d, .int .u16 e.j.ov, .int .u16 e.j.ox, .int .u16 e.j.ol, .int .i64 e.j.oe, .int .i64 e.j.ok, .int .u16 e.j.nv, .int .u16 e.j.nx, .int .u16 e.j.nl, .int .i64 e.j.ne, .int .i64 e.j.nk, .bool e.j.two] 85) = x := ⟨_, rfl⟩
      have b1 : Below wk.heap.size wk w1 := by rw [← hw]; exact (Below.refl _ _).alloc (Nat.le_refl _) _
      have hX : w1.heap[wk.heap.size]? = some (.cells #[.int .i64 e.t, .int .i64 e.k, .string e.d, .int .u16 e.j.ov, .int .u16 e.j.ox, .int .u16 e.j.ol, .int .i64 e.j.oe, .int .i64 e.j.ok, .int .u16 e.j.nv, .int .u16 e.j.nx, .int .u16 e.j.nl, .int .i64 e.j.ne, .int .i64 e.j.nk, .bool e.j.two] 85 (0, 0)) := by rw [← hw]; exact heap_last wk _
      rw [hw]
      obtain ⟨X, eX⟩ : ∃ x, wk.heap.size = x := ⟨_, rfl⟩
      (try rw [eX])
      rw [eX] at hX
      have kX := block_cells hX
      have HW8 := Lib.hid (HWk.out.keep b1)
      have HC := Lib.hid (hentry_any r (n.l.b + (K : Int) + (k : Int) + 1) e w1 HRI.out (by unfold In64; omega) hef.1 hef.2.1 hef.2.2.1 hef.2.2.2)
      clear hw b1 hX eX hef qa0 qa1 qa2 qa3 qa4 qa5 qa6 qa7 qa8 qa9 qa10 qa11 qa12 qa13 HWk
      go_wp2_with fail
      refine HC.out.mono ?_; rintro e1 w2 ⟨v5, rfl, ho1', hb1⟩
      have ho1 := ho1'.mono HW8.out.b.size
      clear ho1' kX HC
      obtain ⟨px, cx, rfl, -⟩ := (Sl.of_own ho1).form
      have hbx : Below w2.heap.size w2 (w2.alloc (.cells #[.slice px (entB r (n.l.b + (K : Int) + (k : Int) + 1) e).length cx] 32)) := (Below.refl _ _).alloc (Nat.le_refl _) _
      have HWx := Lib.hid ((HW8.out.keep hb1).keep hbx)
      have HOx := Lib.hid (own_keptH ho1 hbx)
      have HQx : Hid ((w2.alloc (.cells #[.slice px (entB r (n.l.b + (K : Int) + (k : Int) + 1) e).length cx] 32)).heap[w2.heap.size]? = some (.cells #[.slice px (entB r (n.l.b + (K : Int) + (k : Int) + 1) e).length cx] 32 (0, 0))) := heap_last w2 _
      clear hb1 ho1 hbx
      go_wp2_with (at_builtin; go_loud (refine wpList_append_sl_at rfl _ _ 23 rfl w.heap.size 32 i0 (.slice none 0 0) 1 24 Try.underlying23 hi0 hz0 hz1 hz2 rfl (by decide) vk M.length (M.map (·.1)) rfl HWx.out.l.own _ _ 1 [.slice px (entB r (n.l.b + (K : Int) + (k : Int) + 1) e).length cx] rfl (sl_oneB HQx.out) (by intro u hu; rw [List.mem_singleton] at hu; rw [hu]; rfl) ?d1 ?d2 ?d3 ?_))
      case d1 => (try rw [HLEN.out]); (try simp only [List.length_nil]); unfold maxLen; omega
      case d2 => (try rw [HLEN.out]); (try simp only [List.length_nil]); omega
      case d3 => exact HWx.out.b.size
      intro vy wy h2 h3 h4
      have HW2 := Lib.hid (HWx.out.app HOx.out h2 h3)
      clear h2 h3 h4 HWx HOx HQx
      have HO2 : Hid (∃ M, M.map (·.2) = ((if hardB o n = true then [recB 72 [r, n.tm, n.vt]] else []) ++ (if snapB o n = true then [recB 83 [r, n.l.b, n.l.bt] ++ encJo (joX n.l.j) ++ encT n.sn] else []) ++ (if cutB o n = true then [recB 88 [r, n.l.b + preN (wasL o n) n.l.b n.l.es]] else [])) ++ entsB r (n.l.b + (K : Int) + 1) (L.take (k + 1)) ∧ DfW w wy A C _ _ vy M) := ⟨_, by rw [List.map_append, HM.out, entsB_next r _ L hlt, HE.out, ← List.append_assoc, show n.l.b + (K : Int) + 1 + (k : Int) = n.l.b + (K : Int) + (k : Int) + 1 by omega]; rfl, HW2.out⟩
      clear HM HW2
      go_wp2_with fail
      go_roundw
      case rel => exact ⟨k + 1, by omega, by go_num, HO2⟩
      case measure => simp [intOf]; omega
    · obtain rfl : k = L.length := by omega
      have hd : decide ((L.length : Int) < (L.length : Int)) = false := by simp
      obtain ⟨M, hM, hWk⟩ := HO.out
      rw [List.take_of_length_le (Nat.le_refl _)] at hM
      have HM := Lib.hid hM; have HWk := Lib.hid hWk
      clear hM hWk HO
      go_wp2_with fail
      exact HQ.out _ _ vk M rfl rfl (by rw [HM.out, ← HL.out]; unfold diffB; rw [HWL.out, HKP.out]) HWk.out.l HWk.out.b
end Go.Proofs.Ytjaabakobpabjaa
