import Derived.Test.YtbnndbdnejfehaaGreatDoorLogA
import Derived.Test.YtbnndbdnejfehaaGreatDoorLogE
/- Logs: the plain law: what is in force at the end of a log. -/
namespace Go.Proofs.YtbnndbdnejfehaaGreatDoor

def confF (j : Jn) (es : List Ent) : Jn := es.foldl (fun j e => if e.k = 2 then e.j else j) j
def confL (l : Lg) : Jn := confF l.j l.es
theorem confF_app (j : Jn) (a b : List Ent) : confF j (a ++ b) = confF (confF j a) b := by simp [confF]
theorem confF_none {j : Jn} {es : List Ent} (h : ∀ e ∈ es, e.k ≠ 2) : confF j es = j := by
  induction es generalizing j with
  | nil => rfl
  | cons x t ih =>
    have h1 : confF j (x :: t) = confF (if x.k = 2 then x.j else j) t := rfl
    rw [h1, if_neg (h x (by simp))]
    exact ih (fun e he => h e (by simp [he]))
theorem confF_at {j : Jn} {es : List Ent} {m : Nat} (hm : m < es.length) (hk : es[m].k = 2) (h : ∀ e ∈ es.drop (m + 1), e.k ≠ 2) : confF j es = es[m].j := by
  have hs : es = es.take m ++ (es[m] :: es.drop (m + 1)) := by rw [List.getElem_cons_drop, List.take_append_drop]
  have h1 : confF j es = confF (confF j (es.take m)) (es[m] :: es.drop (m + 1)) := by
    conv => lhs; rw [hs]
    rw [confF_app]
  have h2 : ∀ j', confF j' (es[m] :: es.drop (m + 1)) = confF (if es[m].k = 2 then es[m].j else j') (es.drop (m + 1)) := fun _ => rfl
  rw [h1, h2, if_pos hk, confF_none h]
end Go.Proofs.YtbnndbdnejfehaaGreatDoor
/- Logs: the plain law: what becomes of a log when another one's entries are merged, and when it is compacted. -/
namespace Go.Proofs.YtbnndbdnejfehaaGreatDoor

def frontL (l : Lg) (n : Nat) (L2 : List Ent) : Lg := ⟨l.b, l.bt, l.j, l.es.take n ++ L2⟩
theorem frontL_all (l : Lg) : frontL l l.es.length [] = l := by cases l; simp [frontL]
/-- Is the k-th of the entries another one, or none? -/
def badL (l : Lg) (prev : Int) (es : List Ent) (k : Nat) : Bool := termL l (prev + 1 + k) != ((es.getD k ent0).t, true)
def cutAt (l : Lg) (prev : Int) (es : List Ent) : Option Nat := (List.range es.length).find? (badL l prev es)
theorem cutAt_some {l : Lg} {prev : Int} {es : List Ent} {k : Nat} (hk : k < es.length) (hb : badL l prev es k = true) (h : ∀ j < k, badL l prev es j = false) : cutAt l prev es = some k := by
  unfold cutAt
  rw [List.find?_range_eq_some]
  exact ⟨hb, List.mem_range.2 hk, fun j hj => by simp [h j hj]⟩
theorem cutAt_none {l : Lg} {prev : Int} {es : List Ent} (h : ∀ j < es.length, badL l prev es j = false) : cutAt l prev es = none := by
  unfold cutAt
  rw [List.find?_eq_none]
  intro j hj
  simp [h j (List.mem_range.1 hj)]
theorem cutAt_is {l : Lg} {prev : Int} {es : List Ent} {k : Nat} (h : cutAt l prev es = some k) : k < es.length ∧ badL l prev es k = true ∧ ∀ j < k, badL l prev es j = false := by
  unfold cutAt at h
  rw [List.find?_range_eq_some] at h
  exact ⟨List.mem_range.1 h.2.1, h.1, fun j hj => by simpa using h.2.2 j hj⟩
theorem cutAt_isnone {l : Lg} {prev : Int} {es : List Ent} (h : cutAt l prev es = none) : ∀ j < es.length, badL l prev es j = false := by
  unfold cutAt at h
  rw [List.find?_eq_none] at h
  intro j hj
  simpa using h j (List.mem_range.2 hj)
/-- Behind prev, which the log has (or its base). -/
def joinL (l : Lg) (prev : Int) (es : List Ent) : Lg := match cutAt l prev es with
  | some k => frontL l (prev - l.b + k).toNat (es.drop k)
  | none => l
def refusedL (l : Lg) (prev term : Int) (n : Nat) : Bool := (decide (l.b ≤ prev) && (!(termL l prev).2 || decide ((termL l prev).1 ≠ term))) || (decide (prev < l.b) && decide ((n : Int) < l.b - prev))
def mergeL (l : Lg) (prev term : Int) (es : List Ent) : Lg × Int × Bool :=
  if l.last < prev ∨ prev < 0 then (l, 0, false)
  else if refusedL l prev term es.length then (l, 0, false)
  else if prev < l.b then (joinL l l.b (es.drop (l.b - prev).toNat), prev + es.length, true)
  else (joinL l prev es, prev + es.length, true)
/-- Entries up tq a number are forgotten. -/
def compactL (l : Lg) (tq : Int) : Lg × Int :=
  if (termL l tq).2 then (⟨tq, (termL l tq).1, confF l.j (l.es.take (tq - l.b).toNat), l.es.drop (tq - l.b).toNat⟩, 0) else (⟨0, 0, jn0, []⟩, 1)
/-- A number that a log knows: it is from its base tq its last. -/
theorem termL_known {l : Lg} {i : Int} (h : (termL l i).2 = true) : l.b ≤ i ∧ i ≤ l.last := by
  unfold termL at h
  split at h
  · subst_vars; unfold Lg.last; omega
  · unfold atL at h
    split at h
    · simp at h
    · split at h
      · rename_i h1 h2 e he
        obtain ⟨hl, -⟩ := List.getElem?_eq_some_iff.1 he
        unfold Lg.last; omega
      · simp at h
theorem termL_has {l : Lg} {i : Int} (h1 : l.b ≤ i) (h2 : i ≤ l.last) : (termL l i).2 = true := by
  unfold Lg.last at h2
  by_cases h : i = l.b
  · rw [termL_base h]
  · rw [termL_not h, atL_in (k := (i - l.b - 1).toNat) (by omega) (by omega)]
end Go.Proofs.YtbnndbdnejfehaaGreatDoor
/- entries: front: a log with its first entries alone, and others behind. -/
namespace Go.Proofs.YtbnndbdnejfehaaGreatDoor
open Go.ChangeShapes Go.WideShapes Go.ChangeAt Go.RowKit

theorem entRow_take (L : List Ent) (n : Nat) : entRow (L.take n) = (entRow L).take (n * 14) := by
  induction L generalizing n with
  | nil => simp [entRow]
  | cons x t ih =>
    cases n with
    | zero => simp [entRow]
    | succ m =>
      have hl : (entC x).length = 14 := rfl
      have h2 : entRow (x :: t) = entC x ++ entRow t := rfl
      have h3 : entRow ((x :: t).take (m + 1)) = entC x ++ entRow (t.take m) := rfl
      rw [h3, h2, ih, List.take_append, hl, List.take_of_length_le (show (entC x).length ≤ (m + 1) * 14 by rw [hl]; omega), show (m + 1) * 14 - 14 = m * 14 by omega]
theorem EnSl.take {w : World} {p : Option Addr} {c : Nat} {L : List Ent} (h : EnSl w (.slice p L.length c) L) {n : Nat} (hn : n ≤ L.length) : EnSl w (.slice p (L.take n).length c) (L.take n) := by
  have hln : (L.take n).length = n := by rw [List.length_take]; omega
  unfold EnSl at h ⊢
  rw [hln]
  refine ⟨by rw [entRow_len, hln], ?_⟩
  rcases h.2 with ⟨h2, h3⟩ | ⟨ad, cap, h2, h3, h4, h5⟩
  · left; refine ⟨?_, by omega⟩
    simp only [Value.slice.injEq] at h2 ⊢
    exact ⟨h2.1, by omega, h2.2.2⟩
  · right
    simp only [Value.slice.injEq] at h2
    obtain ⟨rfl, -, rfl⟩ := h2
    refine ⟨ad, c, rfl, by omega, h4, fun h0 => ?_⟩
    obtain ⟨g, o, h6, h7, h8⟩ := h5 (by omega)
    refine ⟨g, o, h6, h7, fun j hj => ?_⟩
    rw [h8 j (by omega), entRow_take, List.getElem?_take, if_pos hj]
theorem own_slice {w : World} {base : Nat} {e : TypeId} {size : Nat} {v : Value} {n : Nat} {xs : List Value} (h : w.ownsRow base e size v n xs) : ∃ p c, v = .slice p n c := by
  rcases h.2 with ⟨h3, h4⟩ | ⟨g, cap, cur, hv, hb, hg, -⟩
  · subst h4; exact ⟨_, _, h3⟩
  · exact ⟨_, _, hv⟩
theorem heap_atL {w : World} {o : Obj} {n : Nat} (h : w.heap.size = n) : (w.alloc o).heap[n]? = some o := by subst h; exact heap_last w o
set_option maxRecDepth 100000 in
set_option maxHeartbeats 4000000 in
theorem front_any (l : Lg) (p : Option Addr) (c n : Nat) (L2 : List Ent) (p2 : Option Addr) (c2 : Nat) (w : World) (hn : n ≤ l.es.length) (hE : EnSl w (.slice p l.es.length c) l.es) (h2 : EnSl w (.slice p2 L2.length c2) L2) (hl : l.es.length + L2.length ≤ 1000000) :
    Calls Tryz.prog 137 #[.agg #[.int .i64 l.b, .int .i64 l.bt, .int .u16 l.j.ov, .int .u16 l.j.ox, .int .u16 l.j.ol, .int .i64 l.j.oe, .int .i64 l.j.ok, .int .u16 l.j.nv, .int .u16 l.j.nx, .int .u16 l.j.nl, .int .i64 l.j.ne, .int .i64 l.j.nk, .bool l.j.two, .slice p l.es.length c], .int .i64 n, .slice p2 L2.length c2] w (LgEnd w.heap.size w (frontL l n L2)) := by
  obtain ⟨p', c', he, hc1, hc2⟩ := hE.form
  simp only [Value.slice.injEq] at he
  obtain ⟨rfl, -, rfl⟩ := he
  unfold maxLen at hc2
  have hnc : n ≤ c := by omega
  have hln : (l.es.take n).length = n := by rw [List.length_take]; omega
  have HLN := Lib.hid hln
  have HE1 := Lib.hid (hE.take hn)
  have HE2 := Lib.hid h2
  clear hE h2 hln
  go_enter Tryz.func137, Tryz.ntmps137
  go_wp2_with fail
  refine (concat_two (l.es.take n) L2 p p2 c c2 _ (w.heap.size + 1 + 1) ?_ ?_ ?_ ?_).mono ?_
  · rw [HLN.out]; exact heap_atL (by simp)
  · exact HE1.out.keep (B := w.heap.size) ((((Below.refl _ _).alloc (Nat.le_refl _) _).alloc (by simp) _).alloc (by simp; omega) _) (Nat.le_refl _)
  · exact HE2.out.keep (B := w.heap.size) ((((Below.refl _ _).alloc (Nat.le_refl _) _).alloc (by simp) _).alloc (by simp; omega) _) (Nat.le_refl _)
  · rw [HLN.out]; omega
  rintro r w2 ⟨v, rfl, ho, hb⟩
  obtain ⟨p3, c3, rfl⟩ := own_slice ho
  rw [HLN.out] at ho ⊢
  have hA2 := below_block (n := w.heap.size) hb (by simp; omega) (heap_prev _ (heap_prev _ (heap_last w _)))
  have hZ2 := below_block (n := w.heap.size + 1) hb (by simp) (heap_prev _ (heap_atL (by simp)))
  have hbw : Below w.heap.size w w2 := Below.trans ((((Below.refl _ _).alloc (Nat.le_refl _) _).alloc (by simp) _).alloc (by simp; omega) _) (hb.mono (by simp; omega))
  have HO := Lib.hid (ho.mono (base' := w.heap.size + 2) (by simp))
  have HBW := Lib.hid hbw
  have HA2 := Lib.hid hA2
  have HZ2 := Lib.hid hZ2
  have kA := block_cells hA2
  have fA := block_free hA2
  have kZ := block_cells hZ2
  have fZ := block_free hZ2
  clear ho hb hbw hA2 hZ2
  go_wp2_with fail
  obtain ⟨S, hS⟩ : ∃ S, Value.slice p3 (n + L2.length) c3 = S := ⟨_, rfl⟩
  have hZ3 : (w2.setCell ⟨w.heap.size, 13, none⟩ (.slice p3 (n + L2.length) c3)).heap[w.heap.size + 1]? = _ := (Below.heap_setCell _ _ _ _ (by simp)).trans HZ2.out
  have hb3 : Below w.heap.size w (w2.setCell ⟨w.heap.size, 13, none⟩ (.slice p3 (n + L2.length) c3)) := HBW.out.setCell (Nat.le_refl _) _
  have F := put14_ok hZ3 hb3 (Nat.le_succ _) (.int .i64 l.b) (.int .i64 l.bt) (.int .u16 l.j.ov) (.int .u16 l.j.ox) (.int .u16 l.j.ol) (.int .i64 l.j.oe) (.int .i64 l.j.ok) (.int .u16 l.j.nv) (.int .u16 l.j.nx) (.int .u16 l.j.nl) (.int .i64 l.j.ne) (.int .i64 l.j.nk) (.bool l.j.two) (.slice p3 (n + L2.length) c3)
  have kF := block_cells F.1
  have G := own_farL (own_farL HO.out (grown_setL (grown_reflL w2 (some w.heap.size)) 13 (.slice p3 (n + L2.length) c3)) (by omega)) (put14_grown (w2.setCell ⟨w.heap.size, 13, none⟩ (.slice p3 (n + L2.length) c3)) (w.heap.size + 1) (.int .i64 l.b) (.int .i64 l.bt) (.int .u16 l.j.ov) (.int .u16 l.j.ox) (.int .u16 l.j.ol) (.int .i64 l.j.oe) (.int .i64 l.j.ok) (.int .u16 l.j.nv) (.int .u16 l.j.nx) (.int .u16 l.j.nl) (.int .i64 l.j.ne) (.int .i64 l.j.nk) (.bool l.j.two) (.slice p3 (n + L2.length) c3)) (by omega)
  unfold put14 at F kF G
  clear hS
  have hlen : (frontL l n L2).es.length = n + L2.length := by show (l.es.take n ++ L2).length = _; rw [List.length_append, HLN.out]
  refine bodyPost_ret (v := .agg #[.int .i64 l.b, .int .i64 l.bt, .int .u16 l.j.ov, .int .u16 l.j.ox, .int .u16 l.j.ol, .int .i64 l.j.oe, .int .i64 l.j.ok, .int .u16 l.j.nv, .int .u16 l.j.nx, .int .u16 l.j.nl, .int .i64 l.j.ne, .int .i64 l.j.nk, .bool l.j.two, .slice p3 (n + L2.length) c3]) ?_ rfl ?_
  · simp [results, Tryz.results137, go_sem, kF]
  · refine ⟨p3, c3, by rw [hlen]; rfl, ?_, F.2⟩
    rw [hlen]
    exact G.mono (by omega)
end Go.Proofs.YtbnndbdnejfehaaGreatDoor
/- Entries from k on. -/
namespace Go.Proofs.YtbnndbdnejfehaaGreatDoor
open Go.ChangeShapes Go.WideShapes Go.ChangeAt Go.RowKit

theorem entRow_drop (L : List Ent) (n : Nat) : entRow (L.drop n) = (entRow L).drop (n * 14) := by
  induction L generalizing n with
  | nil => simp [entRow]
  | cons x t ih =>
    cases n with
    | zero => simp
    | succ m =>
      have hl : (entC x).length = 14 := rfl
      have h2 : entRow (x :: t) = entC x ++ entRow t := rfl
      have h3 : (x :: t).drop (m + 1) = t.drop m := rfl
      rw [h3, h2, ih, List.drop_append, hl, List.drop_eq_nil_of_le (show (entC x).length ≤ (m + 1) * 14 by rw [hl]; omega), show (m + 1) * 14 - 14 = m * 14 by omega]
      rfl
/-- From k on: the address goes up by k entries. -/
theorem EnSl.drop {w : World} {p : Option Addr} {c : Nat} {L : List Ent} (h : EnSl w (.slice p L.length c) L) {k : Nat} (hk : k ≤ L.length) : EnSl w (.slice (Option.map (fun x => x.add (k * 14)) p) (L.drop k).length (c - k)) (L.drop k) := by
  have hln : (L.drop k).length = L.length - k := by rw [List.length_drop]
  unfold EnSl at h ⊢
  rw [hln]
  refine ⟨by rw [entRow_len, hln], ?_⟩
  rcases h.2 with ⟨h2, h3⟩ | ⟨ad, cap, h2, h3, h4, h5⟩
  · left
    simp only [Value.slice.injEq] at h2
    obtain ⟨rfl, h6, rfl⟩ := h2
    exact ⟨by simp [h6], by omega⟩
  · right
    simp only [Value.slice.injEq] at h2
    obtain ⟨rfl, -, rfl⟩ := h2
    refine ⟨ad.add (k * 14), c - k, rfl, by omega, by omega, fun h0 => ?_⟩
    obtain ⟨g, o, rfl, h7, h8⟩ := h5 (by omega)
    refine ⟨g, o + k * 14, by unfold Addr.add; split <;> simp_all, h7, fun j hj => ?_⟩
    rw [Nat.add_assoc, h8 _ (by omega), entRow_drop, List.getElem?_drop]
/-- Nothing is left: any address. -/
theorem EnSl.drop0 {w : World} {q : Option Addr} {c' : Nat} {L : List Ent} {k : Nat} (hk : L.length ≤ k) (hc : c' ≤ maxLen) (hq : q = none → c' = 0) : EnSl w (.slice q (L.drop k).length c') (L.drop k) := by
  have hd : L.drop k = [] := List.drop_eq_nil_of_le hk
  rw [hd]
  refine ⟨rfl, ?_⟩
  cases q with
  | none => left; rw [hq rfl]; exact ⟨rfl, rfl⟩
  | some a => right; exact ⟨a, c', rfl, Nat.zero_le _, hc, fun h => absurd h (Nat.lt_irrefl 0)⟩
/-- From k on, as the program has it: at the capacity's end the address stays. -/
theorem EnSl.drop_if {w : World} {p : Option Addr} {c : Nat} {L : List Ent} (h : EnSl w (.slice p L.length c) L) {k : Nat} (hk : k ≤ L.length) : EnSl w (.slice (if c = k then p else Option.map (fun x => x.add (k * 14)) p) (L.length - k) (c - k)) (L.drop k) := by
  have hln : L.length - k = (L.drop k).length := by rw [List.length_drop]
  rw [hln]
  split
  · rename_i hc
    obtain ⟨p', c', he, hc1, hc2⟩ := h.form
    simp only [Value.slice.injEq] at he
    obtain ⟨rfl, -, rfl⟩ := he
    exact EnSl.drop0 (by omega) (by omega) (fun _ => by omega)
  · exact h.drop hk
end Go.Proofs.YtbnndbdnejfehaaGreatDoor
/- Hard: the plain law: cores; what is written of one that is another one now; what records say. -/
namespace Go.Proofs.YtbnndbdnejfehaaGreatDoor

/-- A core. -/
structure Co where
  id : Int
  role : Int
  tm : Int
  vt : Int
  ld : Int
  wt : Int
  cm : Int
  sf : Int
  l : Lg
  sn : ByteArray
  vs : Int
  hd : Int
  nx : Nat → Int
  mt : Nat → Int
def lg0 : Lg := ⟨0, 0, jn0, []⟩
def co0 : Co := ⟨0, 0, 0, 0, 0, 0, 0, 0, lg0, ⟨#[]⟩, 0, 0, fun _ => 0, fun _ => 0⟩
def joX (j : Jn) : JoX := ⟨⟨j.ov, j.ox, j.ol, j.oe, j.ok⟩, ⟨j.nv, j.nx, j.nl, j.ne, j.nk⟩, j.two⟩
end Go.Proofs.YtbnndbdnejfehaaGreatDoor
/- Logs: the plain law: which logs may be, and which are not too great. -/
namespace Go.Proofs.YtbnndbdnejfehaaGreatDoor

def mayE : List Ent → Int → Bool
  | [], _ => true
  | e :: r, t => decide (t ≤ e.t) && (decide (e.t ≤ 1099511627776) && mayE r e.t)
def mayL (l : Lg) : Bool := decide (0 ≤ l.b) && (decide (l.b ≤ 1099511627776) && (decide (0 ≤ l.bt) && (decide (l.bt ≤ 1099511627776) && mayE l.es (max1 l.bt))))
theorem mayE_step {L : List Ent} {k : Nat} (hk : k < L.length) (t : Int) : mayE (L.drop k) t = (decide (t ≤ L[k].t) && (decide (L[k].t ≤ 1099511627776) && mayE (L.drop (k + 1)) L[k].t)) := by
  rw [List.drop_eq_getElem_cons hk]; rfl
theorem mayE_end (L : List Ent) (t : Int) : mayE (L.drop L.length) t = true := by rw [List.drop_length]; rfl
theorem mayL_b0 {l : Lg} (h : l.b < 0) : mayL l = false := by unfold mayL; simp; omega
theorem mayL_b1 {l : Lg} (h : 1099511627776 < l.b) : mayL l = false := by unfold mayL; simp; omega
theorem mayL_t0 {l : Lg} (h : l.bt < 0) : mayL l = false := by unfold mayL; simp; omega
theorem mayL_t1 {l : Lg} (h : 1099511627776 < l.bt) : mayL l = false := by unfold mayL; simp; omega
theorem mayL_in {l : Lg} (h0 : 0 ≤ l.b) (h1 : l.b ≤ 1099511627776) (h2 : 0 ≤ l.bt) (h3 : l.bt ≤ 1099511627776) : mayL l = mayE l.es (max1 l.bt) := by
  unfold mayL; simp [h0, h1, h2, h3]
def smallB (L : List Ent) : Bool := L.all fun e => decide (e.d.size ≤ 200)
theorem smallB_no {L : List Ent} {k : Nat} (hk : k < L.length) (h : 200 < L[k].d.size) : smallB L = false := by
  unfold smallB
  rw [List.all_eq_false]
  exact ⟨L[k], List.getElem_mem hk, by simp; omega⟩
theorem smallB_yes {L : List Ent} (h : ∀ k, (hk : k < L.length) → L[k].d.size ≤ 200) : smallB L = true := by
  unfold smallB
  rw [List.all_eq_true]
  intro e he
  obtain ⟨k, hk, rfl⟩ := List.getElem_of_mem he
  simpa using h k hk
def lightB (l : Lg) (es : List Ent) : Bool := decide (l.es.length ≤ 60) && (decide (es.length ≤ 60) && (smallB l.es && smallB es))
end Go.Proofs.YtbnndbdnejfehaaGreatDoor
