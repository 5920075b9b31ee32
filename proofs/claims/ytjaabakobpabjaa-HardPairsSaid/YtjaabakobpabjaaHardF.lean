import Derived.Test.YtjaabakobpabjaaBegun15
import Derived.Test.YtjaabakobpabjaaPlainHard
import Derived.Test.YtjaabakobpabjaaLogP
/- Hard: the plain law: what is written of a core that is another one now, behind what was written of the other one, builds it. -/
namespace Go.Proofs.Ytjaabakobpabjaa

theorem step_rec {life : Int} {c : Co} {a : Int} {ys : List Int} {rc : Rc} (ha : a ≠ 76) (hs : sayB a ys = some rc) : bldStep (some (life, [c])) (a :: (encN 0 ++ ys)) = some (life, [apRc c rc]) := by
  have h1 : rdNw (encN 0 ++ ys) false = (((0 : Nat) : Int), ys, false) := rdNw_ok.compl 0 ys (by unfold In64; omega)
  rw [bldStep_say (s := (life, [c])) (n := 0) h1 ha (by simp), hs]; rfl
theorem allR_ok {α : Type} {f : RdT α} {e : α → List Int} {k : α → Prop} (hf : RdOk f e k) {a : α} (h : k a) (φ : α → Rc) : allR (f (e a) false) φ = some (φ a) := by
  have := hf.compl a [] h
  rw [List.append_nil] at this
  unfold allR; rw [this]; rfl
theorem say_hd {tm vt : Int} (h1 : CnV tm) (h2 : CnV vt) : sayB 72 (encN tm ++ encN vt) = some (.hd tm vt) := by
  unfold sayB; rw [if_pos rfl]
  exact allR_ok (rd2_ok hrC_ok hrC_ok) (a := (tm, vt)) ⟨h1, h2⟩ _
theorem say_sn {b bt : Int} {j : JoX} {s : ByteArray} (h1 : CnV b) (h2 : CnV bt) (h3 : JoF j) (h4 : TxV s) : sayB 83 (encN b ++ (encN bt ++ (encJo j ++ encT s))) = some (.sn b bt j s) := by
  unfold sayB; rw [if_neg (by decide), if_pos rfl]
  exact allR_ok (rd2_ok hrC_ok (rd2_ok hrC_ok (rd2_ok hrJ_ok rdTw_ok))) (a := (b, bt, j, s)) ⟨h1, h2, h3, h4⟩ _
/-- What an entry must be that its record says it. -/
def EnP (e : Ent) : Prop := CnV e.t ∧ In64 e.k ∧ TxV e.d ∧ JoF (joX e.j) ∧ (e.k ≠ 2 → e.j = jn0)
theorem say_en {i : Int} {e : Ent} (hi : CnV i) (he : EnP e) : sayB 69 ((encN i ++ (encN e.t ++ (encN e.k ++ encT e.d))) ++ (if e.k = 2 then encJo (joX e.j) else [])) = some (.en i e) := by
  obtain ⟨h1, h2, h3, h4, h5⟩ := he
  unfold sayB; rw [if_neg (by decide), if_neg (by decide), if_pos rfl]
  have hk : (CnV i ∧ CnV e.t ∧ In64 e.k ∧ TxV e.d) ∧ if decide (e.k = 2) = true then JoF (joX e.j) else joX e.j = jo0 := by
    refine ⟨⟨hi, h1, h2, h3⟩, ?_⟩
    split
    · exact h4
    · rename_i hn
      rw [h5 (by simpa using hn)]; rfl
  have := allR_ok (rdIf_ok (rd2_ok hrC_ok (rd2_ok hrC_ok (rd2_ok rdNw_ok rdTw_ok))) hrJ_ok (fun p => decide (p.2.2.1 = 2)) jo0) (a := ((i, e.t, e.k, e.d), joX e.j)) hk (fun p => .en p.1.1 (enE p))
  simp only [decide_eq_true_eq] at this
  exact this
theorem say_ct {i : Int} (h : CnV i) : sayB 88 (encN i) = some (.ct i) := by
  unfold sayB; rw [if_neg (by decide), if_neg (by decide), if_neg (by decide), if_pos rfl]
  exact allR_ok hrC_ok h _
theorem ap_en {c : Co} {i : Int} {e : Ent} (hi : i = c.l.b + c.l.es.length + 1) : apRc c (.en i e) = { c with l := { c.l with es := c.l.es ++ [e] } } := by
  unfold apRc
  dsimp only
  rw [if_pos (by unfold Lg.last; omega), show (i - c.l.b - 1).toNat = c.l.es.length by omega, List.take_of_length_le (Nat.le_refl _)]
theorem fold_ents : ∀ (es : List Ent) (life : Int) (c : Co) (i : Int) (_ : i = c.l.b + c.l.es.length + 1) (_ : 0 ≤ c.l.b) (_ : i + es.length ≤ 1125899906842625) (_ : ∀ e ∈ es, EnP e),
    (entsB 0 i es).foldl bldStep (some (life, [c])) = some (life, [{ c with l := { c.l with es := c.l.es ++ es } }])
  | [], life, c, i, _, _, _, _ => by rw [List.append_nil]; rfl
  | e :: es, life, c, i, hi, h0, ht, he => by
    rw [List.length_cons] at ht
    have h1 : entB 0 i e = 69 :: (encN 0 ++ ((encN i ++ (encN e.t ++ (encN e.k ++ encT e.d))) ++ (if e.k = 2 then encJo (joX e.j) else []))) := by
      simp [entB, recB, List.append_assoc]
    rw [entsB, List.foldl_cons, h1, step_rec (by decide) (say_en ⟨by omega, by omega⟩ (he e (by simp))), ap_en hi]
    refine (fold_ents es life { c with l := { c.l with es := c.l.es ++ [e] } } (i + 1) (by show i + 1 = c.l.b + ((c.l.es ++ [e]).length : Int) + 1; rw [List.length_append, List.length_singleton]; omega) h0 (by omega) (fun x hx => he x (by simp [hx]))).trans ?_
    simp
theorem preN_in (a : Lg) : ∀ (i : Int) (es : List Ent) (j : Nat) (_ : j < preN a i es), ∃ h' : j < es.length, atL a (i + j + 1) = (es[j], true)
  | _, [], j, h => absurd h (by simp [preN])
  | i, e :: es, j, h => by
    unfold preN at h
    split at h
    · rename_i h0
      cases j with
      | zero => exact ⟨by simp, by simpa using h0⟩
      | succ j =>
        obtain ⟨h', hh⟩ := preN_in a (i + 1) es j (by omega)
        refine ⟨by simpa using h', ?_⟩
        rw [show i + ((j + 1 : Nat) : Int) + 1 = i + 1 + (j : Int) + 1 by omega]; simpa using hh
    · omega
theorem atL_get {l : Lg} {i : Int} {x : Ent} (h : atL l i = (x, true)) : l.b < i ∧ l.es[(i - l.b - 1).toNat]? = some x := by
  unfold atL at h
  split at h
  · simp at h
  · rename_i hn
    split at h
    · rename_i e he
      simp only [Prod.mk.injEq, and_true] at h
      rw [h] at he
      exact ⟨by omega, he⟩
    · simp at h
theorem pre_take {A : Lg} {b : Int} {es : List Ent} (hb : A.b ≤ b) : ((A.es.drop (b - A.b).toNat).take (preN A b es)) = es.take (preN A b es) := by
  refine List.ext_getElem? fun j => ?_
  rw [List.getElem?_take, List.getElem?_take]
  split
  · rename_i hj
    obtain ⟨h', hh⟩ := preN_in A b es j hj
    obtain ⟨-, h2⟩ := atL_get hh
    rw [List.getElem?_drop, List.getElem?_eq_getElem h', ← h2]
    congr 1
    omega
  · rfl
theorem termL_congr {l m : Lg} (h1 : l.b = m.b) (h2 : l.bt = m.bt) (h3 : l.es = m.es) (i : Int) : termL l i = termL m i := by
  unfold termL atL
  rw [h1, h2, h3]
/-- What lasts of two cores is the same. -/
structure StC (c o : Co) : Prop where
  tm : c.tm = o.tm
  vt : c.vt = o.vt
  sn : c.sn = o.sn
  b : c.l.b = o.l.b
  bt : c.l.bt = o.l.bt
  es : c.l.es = o.l.es
/-- A core whose records say it. -/
structure NowV (n : Co) : Prop where
  tm : CnV n.tm
  vt : CnV n.vt
  b : CnV n.l.b
  bt : CnV n.l.bt
  j : JoF (joX n.l.j)
  sn : TxV n.sn
  top : n.l.b + n.l.es.length ≤ 1125899906842624
  es : ∀ e ∈ n.l.es, EnP e
theorem st_hard (life : Int) {c o n : Co} (h : StC c o) (V : NowV n) : ∃ c1, (if hardB o n = true then [recB 72 [0, n.tm, n.vt]] else []).foldl bldStep (some (life, [c])) = some (life, [c1]) ∧ c1.tm = n.tm ∧ c1.vt = n.vt ∧ c1.sn = o.sn ∧ c1.l = c.l := by
  split
  · have h1 : recB 72 [0, n.tm, n.vt] = 72 :: (encN 0 ++ (encN n.tm ++ encN n.vt)) := by simp [recB]
    exact ⟨{ c with tm := n.tm, vt := n.vt }, by rw [List.foldl_cons, h1, step_rec (by decide) (say_hd V.tm V.vt)]; rfl, rfl, rfl, h.sn, rfl⟩
  · rename_i hn
    unfold hardB at hn
    simp only [ne_eq, Bool.or_eq_true, decide_eq_true_eq, not_or, Decidable.not_not] at hn
    exact ⟨c, rfl, h.tm.trans hn.1.symm, h.vt.trans hn.2.symm, h.sn, rfl⟩
theorem st_snap (life : Int) {c o n : Co} (hb : c.l.b = o.l.b) (hbt : c.l.bt = o.l.bt) (hes : c.l.es = o.l.es) (hsn : c.sn = o.sn) (h0 : o.l.b ≤ n.l.b) (V : NowV n) :
    ∃ c1, (if snapB o n = true then [recB 83 [0, n.l.b, n.l.bt] ++ encJo (joX n.l.j) ++ encT n.sn] else []).foldl bldStep (some (life, [c])) = some (life, [c1]) ∧ c1.tm = c.tm ∧ c1.vt = c.vt ∧ c1.sn = n.sn ∧ c1.l.b = n.l.b ∧ c1.l.bt = n.l.bt ∧
      c1.l.es = (wasL o n).es.drop (n.l.b - (wasL o n).b).toNat ∧ (wasL o n).b ≤ n.l.b := by
  cases hs : snapB o n with
  | true =>
    rw [if_pos rfl]
    have h1 : recB 83 [0, n.l.b, n.l.bt] ++ encJo (joX n.l.j) ++ encT n.sn = 83 :: (encN 0 ++ (encN n.l.b ++ (encN n.l.bt ++ (encJo (joX n.l.j) ++ encT n.sn)))) := by simp [recB, List.append_assoc]
    refine ⟨apRc c (.sn n.l.b n.l.bt (joX n.l.j) n.sn), by rw [List.foldl_cons, h1, step_rec (by decide) (say_sn V.b V.bt V.j V.sn)]; rfl, rfl, rfl, rfl, rfl, rfl, ?_, ?_⟩
    · show (snL c.l n.l.b n.l.bt (jnX (joX n.l.j))).es = _
      rw [snL_ref, termL_congr hb hbt hes]
      unfold wasL
      rw [hs]
      by_cases ht : termL o.l n.l.b = (n.l.bt, true)
      · rw [if_pos ht, if_neg (fun h => h.2 ht)]
        show sliceL c.l (n.l.b + 1) c.l.es.length = _
        unfold sliceL fromK
        rw [if_pos (by omega), hes, hb, Int.toNat_natCast, List.take_of_length_le (by rw [List.length_drop]; omega)]
        by_cases hle : (n.l.b - o.l.b).toNat ≤ o.l.es.length
        · rw [Nat.min_eq_left (by omega)]; congr 1; omega
        · rw [Nat.min_eq_right (by omega), List.drop_of_length_le (Nat.le_refl _), List.drop_of_length_le (by omega)]
      · rw [if_neg ht, if_pos ⟨rfl, ht⟩]
        simp
    · unfold wasL
      split
      · exact Int.le_refl _
      · exact h0
  | false =>
    rw [if_neg (by decide)]
    have hw : wasL o n = o.l := by unfold wasL; rw [hs]; rfl
    unfold snapB at hs
    simp only [ne_eq, Bool.or_eq_false_iff, decide_eq_false_iff_not, Decidable.not_not] at hs
    obtain ⟨⟨⟨e1, e2⟩, -⟩, e4⟩ := hs
    rw [hw]
    exact ⟨c, rfl, rfl, rfl, hsn.trans e4.symm, hb.trans e1.symm, hbt.trans e2.symm, by rw [hes, e1, Int.sub_self]; rfl, h0⟩
theorem fold_diff (life : Int) {c o n : Co} (h : StC c o) (V : NowV n) (h0 : o.l.b ≤ n.l.b) : ∃ c', (diffB 0 o n).foldl bldStep (some (life, [c])) = some (life, [c']) ∧ StC c' n := by
  obtain ⟨c1, f1, t1, v1, s1, l1⟩ := st_hard life h V
  obtain ⟨c2, f2, t2, v2, s2, b2, bt2, es2, hA⟩ := st_snap life (c := c1) (o := o) (n := n) (by rw [l1]; exact h.b) (by rw [l1]; exact h.bt) (by rw [l1]; exact h.es) s1 h0 V
  obtain ⟨A, hAe⟩ : ∃ A, wasL o n = A := ⟨_, rfl⟩
  obtain ⟨k, hk⟩ : ∃ k, preN A n.l.b n.l.es = k := ⟨_, rfl⟩
  have hkl : k ≤ n.l.es.length := by rw [← hk]; exact preN_le A n.l.b n.l.es
  have hpre := pre_take (A := A) (b := n.l.b) (es := n.l.es) (by rw [← hAe]; exact hA)
  rw [hk] at hpre
  rw [hAe] at es2 hA
  have htop := V.top
  have hb0 := V.b.1
  have h3 : ∃ c3, (if cutB o n = true then [recB 88 [0, n.l.b + preN (wasL o n) n.l.b n.l.es]] else []).foldl bldStep (some (life, [c2])) = some (life, [c3]) ∧ c3.tm = n.tm ∧ c3.vt = n.vt ∧ c3.sn = n.sn ∧ c3.l.b = n.l.b ∧ c3.l.bt = n.l.bt ∧ c3.l.es = n.l.es.take k := by
    rw [hAe, hk]
    split
    · have h1 : recB 88 [0, n.l.b + (k : Int)] = 88 :: (encN 0 ++ encN (n.l.b + (k : Int))) := by simp [recB]
      refine ⟨apRc c2 (.ct (n.l.b + (k : Int))), by rw [List.foldl_cons, h1, step_rec (by decide) (say_ct ⟨by omega, by omega⟩)]; rfl, t2.trans t1, v2.trans v1, s2, b2, bt2, ?_⟩
      show c2.l.es.take (n.l.b + (k : Int) - c2.l.b).toNat = _
      rw [b2, es2, show (n.l.b + (k : Int) - n.l.b).toNat = k by omega, hpre]
    · rename_i hn
      unfold cutB at hn
      rw [hAe, hk] at hn
      simp only [decide_eq_true_eq] at hn
      unfold Lg.last at hn
      refine ⟨c2, rfl, t2.trans t1, v2.trans v1, s2, b2, bt2, ?_⟩
      rw [es2, ← hpre, List.take_of_length_le (by rw [List.length_drop]; omega)]
  obtain ⟨c3, f3, t3, v3, s3, b3, bt3, es3⟩ := h3
  have f4 := fold_ents (n.l.es.drop k) life c3 (n.l.b + (k : Int) + 1) (by rw [b3, es3, List.length_take, Nat.min_eq_left hkl]) (by rw [b3]; exact hb0) (by rw [List.length_drop]; omega) (fun e he => V.es e (List.mem_of_mem_drop he))
  refine ⟨{ c3 with l := { c3.l with es := c3.l.es ++ n.l.es.drop k } }, ?_, t3, v3, s3, b3, bt3, ?_⟩
  · unfold diffB
    rw [List.foldl_append, List.foldl_append, List.foldl_append, f1, f2, f3, hAe, hk]
    exact f4
  · show c3.l.es ++ n.l.es.drop k = _
    rw [es3, List.take_append_drop]
theorem st_new (id : Int) (j : Jn) : StC (newCo id j) co0 := ⟨rfl, rfl, rfl, rfl, rfl, rfl⟩
/-- The law. -/
theorem pairs_plain {a b : Co} (p : Option Addr) (k : Nat) (ha : NowV a) (hb : NowV b) (h : a.l.b ≤ b.l.b) : ∃ c, bld 1 [j3] (wholeB 1 [⟨0, a, p, k⟩] ++ diffB 0 a b) = some (1, [c]) ∧ StC c b := by
  obtain ⟨c1, f1, s1⟩ := fold_diff 1 (st_new 1 j3) ha (show co0.l.b ≤ a.l.b from ha.b.1)
  obtain ⟨c2, f2, s2⟩ := fold_diff 1 s1 hb h
  refine ⟨c2, ?_, s2⟩
  have h1 : recB 76 [1] = 76 :: encN 1 := by simp [recB]
  have h2 : rdNw (encN 1) false = (1, [], false) := by
    have := rdNw_ok.compl 1 [] (by unfold In64; omega)
    rwa [List.append_nil] at this
  have h3 : bldStep (some (0, [newCo 1 j3])) (recB 76 [1]) = some (1, [newCo 1 j3]) := by rw [h1]; exact bldStep_life (s := (0, [newCo 1 j3])) h2
  unfold bld wholeB
  rw [List.cons_append, List.foldl_cons, List.foldl_append]
  show List.foldl bldStep (List.foldl bldStep (bldStep (some (0, [newCo 1 j3])) (recB 76 [1])) (diffB 0 co0 a ++ [])) (diffB 0 a b) = _
  rw [h3, List.append_nil, f1, f2]
end Go.Proofs.Ytjaabakobpabjaa
/- Hard: is a core not too great? -/
namespace Go.Proofs.Ytjaabakobpabjaa
open Go.ChangeShapes Go.WideShapes Go.ChangeAt Go.RowKit

def lightC (c : Co) : Bool := lightB c.l [] && decide (c.sn.size ≤ 300)
set_option maxRecDepth 100000 in
set_option maxHeartbeats 4000000 in
theorem light13_any (c : Co) (p : Option Addr) (k : Nat) (w : World) (hE : EnSl w (.slice p c.l.es.length k) c.l.es) :
    Calls Try.prog 14 #[.agg #[.int .i64 c.id, .int .i64 c.role, .int .i64 c.tm, .int .i64 c.vt, .int .i64 c.ld, .int .i64 c.wt, .int .i64 c.cm, .int .i64 c.sf, .int .i64 c.l.b, .int .i64 c.l.bt, .int .u16 c.l.j.ov, .int .u16 c.l.j.ox, .int .u16 c.l.j.ol, .int .i64 c.l.j.oe, .int .i64 c.l.j.ok, .int .u16 c.l.j.nv, .int .u16 c.l.j.nx, .int .u16 c.l.j.nl, .int .i64 c.l.j.ne, .int .i64 c.l.j.nk, .bool c.l.j.two, .slice p c.l.es.length k, .string c.sn, .int .u16 c.vs, .int .u16 c.hd, .int .i64 (c.nx 0), .int .i64 (c.nx 1), .int .i64 (c.nx 2), .int .i64 (c.nx 3), .int .i64 (c.nx 4), .int .i64 (c.nx 5), .int .i64 (c.nx 6), .int .i64 (c.nx 7), .int .i64 (c.nx 8), .int .i64 (c.nx 9), .int .i64 (c.mt 0), .int .i64 (c.mt 1), .int .i64 (c.mt 2), .int .i64 (c.mt 3), .int .i64 (c.mt 4), .int .i64 (c.mt 5), .int .i64 (c.mt 6), .int .i64 (c.mt 7), .int .i64 (c.mt 8), .int .i64 (c.mt 9)]] w fun e w' => e = .returned (.bool (lightC c)) ∧ Below w.heap.size w w' := by
  obtain ⟨W, hW⟩ : ∃ x : World, w.alloc (.cells #[.int .i64 c.id, .int .i64 c.role, .int .i64 c.tm, .int .i64 c.vt, .int .i64 c.ld, .int .i64 c.wt, .int .i64 c.cm, .int .i64 c.sf, .int .i64 c.l.b, .int .i64 c.l.bt, .int .u16 c.l.j.ov, .int .u16 c.l.j.ox, .int .u16 c.l.j.ol, .int .i64 c.l.j.oe, .int .i64 c.l.j.ok, .int .u16 c.l.j.nv, .int .u16 c.l.j.nx, .int .u16 c.l.j.nl, .int .i64 c.l.j.ne, .int .i64 c.l.j.nk, .bool c.l.j.two, .slice p c.l.es.length k, .string c.sn, .int .u16 c.vs, .int .u16 c.hd, .int .i64 (c.nx 0), .int .i64 (c.nx 1), .int .i64 (c.nx 2), .int .i64 (c.nx 3), .int .i64 (c.nx 4), .int .i64 (c.nx 5), .int .i64 (c.nx 6), .int .i64 (c.nx 7), .int .i64 (c.nx 8), .int .i64 (c.nx 9), .int .i64 (c.mt 0), .int .i64 (c.mt 1), .int .i64 (c.mt 2), .int .i64 (c.mt 3), .int .i64 (c.mt 4), .int .i64 (c.mt 5), .int .i64 (c.mt 6), .int .i64 (c.mt 7), .int .i64 (c.mt 8), .int .i64 (c.mt 9)] 48) = x := ⟨_, rfl⟩
  have hb : Below w.heap.size w W := by rw [← hW]; exact (Below.refl _ _).alloc (Nat.le_refl _) _
  have hA : W.heap[w.heap.size]? = some (.cells #[.int .i64 c.id, .int .i64 c.role, .int .i64 c.tm, .int .i64 c.vt, .int .i64 c.ld, .int .i64 c.wt, .int .i64 c.cm, .int .i64 c.sf, .int .i64 c.l.b, .int .i64 c.l.bt, .int .u16 c.l.j.ov, .int .u16 c.l.j.ox, .int .u16 c.l.j.ol, .int .i64 c.l.j.oe, .int .i64 c.l.j.ok, .int .u16 c.l.j.nv, .int .u16 c.l.j.nx, .int .u16 c.l.j.nl, .int .i64 c.l.j.ne, .int .i64 c.l.j.nk, .bool c.l.j.two, .slice p c.l.es.length k, .string c.sn, .int .u16 c.vs, .int .u16 c.hd, .int .i64 (c.nx 0), .int .i64 (c.nx 1), .int .i64 (c.nx 2), .int .i64 (c.nx 3), .int .i64 (c.nx 4), .int .i64 (c.nx 5), .int .i64 (c.nx 6), .int .i64 (c.nx 7), .int .i64 (c.nx 8), .int .i64 (c.nx 9), .int .i64 (c.mt 0), .int .i64 (c.mt 1), .int .i64 (c.mt 2), .int .i64 (c.mt 3), .int .i64 (c.mt 4), .int .i64 (c.mt 5), .int .i64 (c.mt 6), .int .i64 (c.mt 7), .int .i64 (c.mt 8), .int .i64 (c.mt 9)] 48 (0, 0)) := by rw [← hW]; exact heap_last w _
  have HC := Lib.hid (light_any c.l p k [] none 0 W (hE.keep hb (Nat.le_refl _)) ⟨rfl, .inl ⟨rfl, rfl⟩⟩)
  have HB := Lib.hid hb; have HA := Lib.hid hA
  have HW := Lib.hid hW
  have kA := block_cells hA
  clear hE hb hA hW
  go_enter Try.func14, Try.ntmps14
  go_upto_region 1 with fail
  rw [HW.out]
  clear HW
  go_wp2_with fail
  refine HC.out.mono ?_; rintro e w1 ⟨rfl, b1⟩
  have HB1 := Lib.hid (HB.out.trans (b1.mono HB.out.size))
  have kB := block_cells (below_block b1 (block_lt HA.out) HA.out)
  have HL : Hid (lightC c = (lightB c.l [] && decide (c.sn.size ≤ 300))) := rfl
  clear kA b1
  have hu : undef = Value.tuple #[] := rfl
  cases hl : lightB c.l [] with
  | false =>
    rw [hl] at HL
    have HL2 := Lib.hid HL.out
    clear hl HL
    go_wp2_with fail
    go_ret
    exact ⟨by rw [HL2.out]; rfl, HB1.out⟩
  | true =>
    rw [hl] at HL
    have HL2 := Lib.hid HL.out
    clear hl HL
    by_cases hs : c.sn.size ≤ 300
    · have hd : decide ((c.sn.size : Int) ≤ 300) = true := by simp; omega
      have HD : Hid (decide (c.sn.size ≤ 300) = true) := by show _ = _; simpa using hs
      go_wp2_with fail
      go_ret
      exact ⟨by rw [HL2.out, HD.out]; rfl, HB1.out⟩
    · have hd : decide ((c.sn.size : Int) ≤ 300) = false := by simp; omega
      have HD : Hid (decide (c.sn.size ≤ 300) = false) := by show _ = _; simpa using hs
      go_wp2_with fail
      go_ret
      exact ⟨by rw [HL2.out, HD.out]; rfl, HB1.out⟩
end Go.Proofs.Ytjaabakobpabjaa
