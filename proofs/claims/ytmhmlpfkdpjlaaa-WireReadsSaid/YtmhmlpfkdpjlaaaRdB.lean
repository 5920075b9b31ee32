/- Wire: closures of package wire's reader that read one thing and append it. -/
import Derived.Test.YtmhmlpfkdpjlaaaRdA
import Derived.Test.YtmhmlpfkdpjlaaaHeld
import Derived.Test.YtmhmlpfkdpjlaaaGwA
import Derived.Test.YtmhmlpfkdpjlaaaPlainPart
import Derived.Maps.AppendAt
import Derived.Deep.RegionHeld3
namespace Go.Proofs.Ytmhmlpfkdpjlaaa
open Go.ChangeShapes Go.WideShapes Go.ChangeAt Go.RowKit

theorem rd2_is {α β : Type} {f : List Int → Bool → α × List Int × Bool} {g : List Int → Bool → β × List Int × Bool} {xs ys zs : List Int} {b b1 b2 : Bool} {a : α} {c : β} (h1 : f xs b = (a, ys, b1)) (h2 : g ys b1 = (c, zs, b2)) : rd2 f g xs b = ((a, c), zs, b2) := by
  unfold rd2; simp only [h1, h2]
theorem rdMap_is {α β : Type} {f : List Int → Bool → α × List Int × Bool} {φ : α → β} {xs ys : List Int} {b b1 : Bool} {a : α} (h : f xs b = (a, ys, b1)) : rdMap f φ xs b = (φ a, ys, b1) := by
  unfold rdMap; rw [h]
theorem Try.infoSp : (Try.prog.info? 65).map (fun i => (i.zero, i.size, i.bytes)) = some (some (.agg #[.string ⟨#[]⟩, .string ⟨#[]⟩]), 2, 32) := by kernel_rfl
theorem Try.infoWr : (Try.prog.info? 67).map (fun i => (i.zero, i.size, i.bytes)) = some (some (.agg #[.string ⟨#[]⟩, .bool false, .string ⟨#[]⟩]), 3, 40) := by kernel_rfl
theorem Try.infoVe : (Try.prog.info? 78).map (fun i => (i.zero, i.size, i.bytes)) = some (some (.agg #[.int .i64 0, .int .i64 0, .bool false, .string ⟨#[]⟩]), 4, 40) := by kernel_rfl
theorem Try.infoOu : (Try.prog.info? 83).map (fun i => (i.zero, i.size, i.bytes)) = some (some (.agg #[.int .i64 0, .int .i64 0, .int .i64 0, .int .i64 0, .int .i64 0, .int .i64 0, .bool false]), 7, 56) := by kernel_rfl
theorem Try.infoCe : (Try.prog.info? 75).map (fun i => (i.zero, i.size, i.bytes)) = some (some (.agg #[.string ⟨#[]⟩, .slice none 0 0, .bool false, .int .i64 0, .int .i64 0, .int .i64 0, .int .i64 0, .int .i64 0, .int .i64 0, .int .i64 0, .bool false, .string ⟨#[]⟩]), 12, 128) := by kernel_rfl
def spR (l : List SpX) : List Value := l.flatMap fun s => [.string s.lo, .string s.hi]
def wrR (l : List WrX) : List Value := l.flatMap fun s => [.string s.k, .bool s.r, .string s.d]
def veR (l : List VeX) : List Value := l.flatMap fun s => [.int .i64 s.w, .int .i64 s.t, .bool s.r, .string s.d]
def ouR (l : List OuX) : List Value := l.flatMap fun s => [.int .i64 s.yn, .int .i64 s.yl, .int .i64 s.ys, .int .i64 s.ya, .int .i64 s.sw, .int .i64 s.st, .bool s.yes]
def rdSp : List Int → Bool → SpX × List Int × Bool := rdMap (rd2 rdTw rdTw) fun p => ⟨p.1, p.2⟩
def rdWr : List Int → Bool → WrX × List Int × Bool := rdMap (rd2 rdTw (rd2 rdFw rdTw)) fun p => ⟨p.1, p.2.1, p.2.2⟩
def rdVe : List Int → Bool → VeX × List Int × Bool := rdMap (rd2 rdSw (rd2 rdFw rdTw)) fun p => ⟨p.1.1, p.1.2, p.2.1, p.2.2⟩
def rdOu : List Int → Bool → OuX × List Int × Bool := rdMap (rd2 rdYw (rd2 rdSw rdFw)) fun p => ⟨p.1.1, p.1.2.1, p.1.2.2.1, p.1.2.2.2, p.2.1.1, p.2.1.2, p.2.2⟩
theorem rdSp_len (xs : List Int) (b : Bool) : (rdSp xs b).2.1.length ≤ xs.length := Nat.le_trans (rdTw_len _ _) (rdTw_len _ _)
theorem rdWr_len (xs : List Int) (b : Bool) : (rdWr xs b).2.1.length ≤ xs.length := Nat.le_trans (rdTw_len _ _) (Nat.le_trans (rdFw_len _ _) (rdTw_len _ _))
theorem rdVe_len (xs : List Int) (b : Bool) : (rdVe xs b).2.1.length ≤ xs.length := Nat.le_trans (rdTw_len _ _) (Nat.le_trans (rdFw_len _ _) (rdSw_len _ _))
theorem rdOu_len (xs : List Int) (b : Bool) : (rdOu xs b).2.1.length ≤ xs.length := Nat.le_trans (rdFw_len _ _) (Nat.le_trans (rdSw_len _ _) (rdYw_len _ _))
def SpV (x : SpX) : Prop := TxV x.lo ∧ TxV x.hi
def WrV (x : WrX) : Prop := TxV x.k ∧ True ∧ TxV x.d
def VeV (x : VeX) : Prop := (In64 x.w ∧ In64 x.t) ∧ True ∧ TxV x.d
def OuV (x : OuX) : Prop := (In64 x.yn ∧ In64 x.yl ∧ In64 x.ys ∧ In64 x.ya) ∧ (In64 x.sw ∧ In64 x.st) ∧ True
theorem rdSp_ok : RdOk rdSp encSp SpV := rdMap_ok (rd2_ok rdTw_ok rdTw_ok) (fun s => (s.lo, s.hi)) (fun _ => rfl) (fun _ => rfl) (fun _ => Iff.rfl)
theorem rdWr_ok : RdOk rdWr encWr WrV := rdMap_ok (rd2_ok rdTw_ok (rd2_ok rdFw_ok rdTw_ok)) (fun s => (s.k, s.r, s.d)) (fun _ => rfl) (fun a => by simp [encWr]) (fun _ => Iff.rfl)
theorem rdVe_ok : RdOk rdVe encVe VeV := rdMap_ok (rd2_ok rdSw_ok (rd2_ok rdFw_ok rdTw_ok)) (fun s => ((s.w, s.t), s.r, s.d)) (fun _ => rfl) (fun a => by simp [encVe]) (fun _ => Iff.rfl)
theorem rdOu_ok : RdOk rdOu encOu OuV := rdMap_ok (rd2_ok rdYw_ok (rd2_ok rdSw_ok rdFw_ok)) (fun s => ((s.yn, s.yl, s.ys, s.ya), (s.sw, s.st), s.yes)) (fun _ => rfl) (fun a => by simp [encOu]) (fun _ => Iff.rfl)
theorem rd_stays {w w' : World} {R : Nat} (h : w.grownBy w' (some R)) {g : Nat} {o : Obj} (hq : w.heap[g]? = some o) (hn : g ≠ R) : w'.heap[g]? = some o := (h.block g (block_lt hq) (by simpa using hn)).trans hq
theorem wp_append_one {P : Program} {w : World} {o : Oper} {a : Act} {K : Act → World → Prop} {Q : Exit → Act → World → Prop} (s x : Operand) (t : TypeId)
    (ho : o.op = .call { callee := .builtin .append, args := #[s, x], argTypes := #[t, t] })
    (base : Nat) (e : TypeId) (i : TypeInfo) (z : Value) (size bytes : Nat) (ht : P.underlying t = some (.slice e)) (hi : P.info? e = some i) (hz : i.zero = some z)
    (hsize : i.size = size) (hby : i.bytes = bytes) (hzs : z.cells.size = size) (hsz : 0 < size)
    (v : Value) (n : Nat) (xs : List Value) (hs : a.eval s = v) (hown : w.ownsRow base e size v n xs)
    (G : Nat) (cs : List Value) (te : TypeId) (hx : a.eval x = .slice (some ⟨G, 0, none⟩) 1 1) (hq : w.heap[G]? = some (.cells cs.toArray te (0, 0))) (hcs : cs.length = size) (h1 : ∀ u ∈ cs, u.oneCell' = true)
    (h63 : n + 1 ≤ maxLen) (hbytes : (n + 1) * bytes ≤ 140737488355328) (hbase : base ≤ w.heap.size)
    (h : ∀ v' w', w'.ownsRow base e size v' (n + 1) (xs ++ cs) → w.grownBy w' v.ownBlock → (v'.ownBlock = v.ownBlock ∨ v'.ownBlock = some w.heap.size) → K (a.put o.dst v') w') : Oper.wp P o a w K Q := by
  obtain ⟨v', w', hr, h2, h3, -, h5⟩ := run_append_own_at (P := P) w base t o.type e i z size bytes ht hi hz hsize hby hzs hsz v n xs hown ⟨G, 0, none⟩ 1 1 cs (by rw [hcs, Nat.one_mul]) (fun j u hu => by
    have hadd : (⟨G, 0, none⟩ : Addr).add j = ⟨G, j, none⟩ := by unfold Addr.add; split <;> simp_all
    rw [hadd, block_cells hq]; simpa using hu) h1 h63 hbytes hbase
  unfold Oper.wp execOp
  simp only [ho, resolve, invoke, builtin, Sem.run_bind, Sem.run_pure, Result.andThen_ok, List.map_toArray, List.map_cons, List.map_nil, hs, hx, hr]
  exact h v' w' h2 h3 h5
/-- Below base all but two blocks are as they were. -/
def KpB (base R g : Nat) (w w' : World) : Prop := ∀ k, k < base → k ≠ R → k ≠ g → w'.heap[k]? = w.heap[k]?
theorem kpB_gr {base R g : Nat} {w w' : World} (hz : base ≤ w.heap.size) (h : w.grownBy w' (some R)) : KpB base R g w w' := fun k hk hr _ => h.block k (by omega) (by simpa using hr)
theorem KpB.trans {base R g : Nat} {w w1 w2 : World} (h : KpB base R g w w1) (k : KpB base R g w1 w2) : KpB base R g w w2 := fun i h1 h2 h3 => (k i h1 h2 h3).trans (h i h1 h2 h3)
/-- A list as it is read: in the cell of a block, in a row of the call's own. -/
structure LsJ {α : Type} (B R T g base : Nat) (w0 wS : World) (cs : Value → Array Value) (tc te : TypeId) (size : Nat) (row : List α → List Value) (acc : List α) (w : World) : Prop where
  ex : ∃ v, w.heap[g]? = some (.cells (cs v) tc (0, 0)) ∧ w.ownsRow base te size v acc.length (row acc)
  t : w.heap[T]? = some (.cells #[.pointer (some ⟨R, 0, none⟩)] 99 (0, 0))
  b : w0.grownBy w (some R)
  z : base ≤ w.heap.size
  k : KpB base R g wS w
/-- Where they lie. -/
structure LsP (n R T g base : Nat) : Prop where
  ng : n ≤ g
  rt : R < T
  rg : R < g
  gt : g ≠ T
  gb : g < base
  tb : T < base
theorem LsJ.row {α : Type} {B R T g base : Nat} {w0 wS : World} {cs : Value → Array Value} {tc te : TypeId} {size : Nat} {row : List α → List Value} {acc : List α} {w w' : World} (h : LsJ B R T g base w0 wS cs tc te size row acc w) {n : Nat} (p : LsP n R T g base) (hg : w.grownBy w' (some R)) : LsJ B R T g base w0 wS cs tc te size row acc w' := by
  obtain ⟨ng, rt, rg, gt, gb, tb⟩ := p
  obtain ⟨v, h1, h2⟩ := h.ex
  refine ⟨⟨v, rd_stays hg h1 (by omega), h2.kept hg ?_⟩, rd_stays hg h.t (by omega), grown_transW h.b hg, Nat.le_trans h.z hg.size, h.k.trans (kpB_gr h.z hg)⟩
  cases e : v.ownBlock with
  | none => exact .inl rfl
  | some x => exact .inr fun h => by have := (h2.lt x e).1; simp only [Option.some.injEq] at h; omega
theorem grown_row {w0 w w' : World} {R : Nat} {row : Option Nat} (h : w0.grownBy w (some R)) (hg : w.grownBy w' row) (hr : ∀ k, row = some k → w0.heap.size ≤ k) : w0.grownBy w' (some R) :=
  ⟨hg.os.trans h.os, hg.tape.trans h.tape, hg.output.trans h.output, Nat.le_trans h.size hg.size, fun k hk hn => (hg.block k (Nat.lt_of_lt_of_le hk h.size) (fun e => by have := hr k e.symm; omega)).trans (h.block k hk hn)⟩
theorem rflagE (B R : Nat) (xs : List Int) (b : Bool) (w : World) (h : RdW B w R xs b) : Calls Try.prog 60 #[.pointer (some ⟨R, 0, none⟩)] w (RdE B R w Value.bool (rdFw xs b)) := (rflag_any B R xs b w h.o h.r).mono fun _ _ hh => rdE_of rdFw_ok (rdFw_len _ _) h hh
theorem rnumE (B R : Nat) (xs : List Int) (b : Bool) (w : World) (h : RdW B w R xs b) : Calls Try.prog 59 #[.pointer (some ⟨R, 0, none⟩)] w (RdE B R w (Value.int .i64) (rdNw xs b)) := (rnum_any B R xs b w h.o h.r).mono fun _ _ hh => rdE_of rdNw_ok (rdNw_len _ _) h hh
theorem rintE (B R : Nat) (xs : List Int) (b : Bool) (w : World) (h : RdW B w R xs b) : Calls Try.prog 56 #[.pointer (some ⟨R, 0, none⟩)] w (RdE B R w (Value.int .i64) (rdNw xs b)) := (rint_any B R xs b w h.o h.r).mono fun _ _ hh => rdE_of rdNw_ok (rdNw_len _ _) h hh
theorem rbyteE (B R : Nat) (xs : List Int) (b : Bool) (w : World) (h : RdW B w R xs b) : Calls Try.prog 55 #[.pointer (some ⟨R, 0, none⟩)] w (RdE B R w (Value.int .i64) (rdBw xs b)) := (rbyteW_any B R xs b w h.o h.r).mono fun _ _ hh => rdE_of rdBw_ok (rdBw_len _ _) h hh
theorem rmomentE (B R : Nat) (xs : List Int) (b : Bool) (w : World) (h : RdW B w R xs b) : Calls Try.prog 58 #[.pointer (some ⟨R, 0, none⟩)] w (RdE B R w (fun p => .agg #[.int .i64 p.1, .int .i64 p.2]) (rdSw xs b)) := (rmoment_any B R xs b w h.o h.r).mono fun _ _ hh => rdE_of rdSw_ok (rdSw_len _ _) h hh
theorem rtryE (B R : Nat) (xs : List Int) (b : Bool) (w : World) (h : RdW B w R xs b) : Calls Try.prog 57 #[.pointer (some ⟨R, 0, none⟩)] w (RdE B R w (fun p => .agg #[.int .i64 p.1, .int .i64 p.2.1, .int .i64 p.2.2.1, .int .i64 p.2.2.2]) (rdYw xs b)) := (rtry_any B R xs b w h.o h.r).mono fun _ _ hh => rdE_of rdYw_ok (rdYw_len _ _) h hh
set_option maxRecDepth 100000 in
set_option maxHeartbeats 8000000 in
theorem cmdSp_any (B R T g base : Nat) (w0 wS : World) (x0 x1 x2 x3 x4 x5 x6 x7 x8 x9 x10 x11 x13 : Value) (acc : List SpX) (ys : List Int) (b : Bool) (w : World) (p : LsP w0.heap.size R T g base) (hl : acc.length ≤ 65536) (h : RdW B w R ys b) (hJ : LsJ B R T g base w0 wS (fun v => #[x0, x1, x2, x3, x4, x5, x6, x7, x8, x9, x10, x11, v, x13]) 29 65 2 spR acc w) :
    Calls Try.prog 62 #[.pointer (some ⟨g, 0, none⟩), .pointer (some ⟨T, 0, none⟩)] w fun e w' => e = .returned (.tuple #[]) ∧ RdW B w' R (rdSp ys b).2.1 (rdSp ys b).2.2 ∧ LsJ B R T g base w0 wS (fun v => #[x0, x1, x2, x3, x4, x5, x6, x7, x8, x9, x10, x11, v, x13]) 29 65 2 spR (acc ++ [(rdSp ys b).1]) w' := by
  obtain ⟨ng, rt, rg, gt, gb, tb⟩ := p
  obtain ⟨⟨v, hg, ho⟩, hT, hB, hz, hkp⟩ := hJ
  obtain ⟨⟨a1, X1, b1⟩, hr1⟩ : ∃ r, rdTw ys b = r := ⟨_, rfl⟩
  have C1 : Hid (∀ w', RdW B w' R ys b → Calls Try.prog 63 #[.pointer (some ⟨R, 0, none⟩)] w' fun e w'' => e = .returned (.string a1) ∧ RdW B w'' R X1 b1 ∧ w'.grownBy w'' (some R)) := fun w' h => by
    have := rtext_any B R ys b w' h; rw [hr1] at this; exact this
  obtain ⟨⟨a2, X2, b2⟩, hr2⟩ : ∃ r, rdTw X1 b1 = r := ⟨_, rfl⟩
  have C2 : Hid (∀ w', RdW B w' R X1 b1 → Calls Try.prog 63 #[.pointer (some ⟨R, 0, none⟩)] w' fun e w'' => e = .returned (.string a2) ∧ RdW B w'' R X2 b2 ∧ w'.grownBy w'' (some R)) := fun w' h => by
    have := rtext_any B R X1 b1 w' h; rw [hr2] at this; exact this
  have HR : Hid (rdSp ys b = (⟨a1, a2⟩, X2, b2)) := rdMap_is (rd2_is hr1 hr2)
  have H0 := Lib.hid h; have HT := Lib.hid hT; have HG := Lib.hid hg; have HO := Lib.hid ho; have HB := Lib.hid hB
  obtain ⟨i0, hi, hz0, hz1, hz2⟩ := info_parts Try.infoSp
  clear h hT hg ho hB hr1 hr2
  go_enter Try.func62, Try.ntmps62
  have kT : ∀ w', KpB base R g w w' → ∀ j, w'.cell? ⟨T, j, none⟩ = #[.pointer (some ⟨R, 0, none⟩)][j]? := fun w' h => block_cells ((h T (by omega) (by omega) (by omega)).trans HT.out)
  have KG : Hid (∀ w', w.grownBy w' (some R) → ∀ j, w'.cell? ⟨g, j, none⟩ = #[x0, x1, x2, x3, x4, x5, x6, x7, x8, x9, x10, x11, v, x13][j]?) := fun w' h => block_cells (rd_stays h HG.out (by omega))
  have g0 : w.grownBy w.drew (some R) := grown_drewW (grown_refl w _)
  have r0 := H0.out.drew
  refine wp_region_held_drew (S := fun w' => KpB base R g w w') (by kernel_rfl) (kpB_gr hz g0) (fun hHeld => ?_)
  obtain ⟨wd, ewd⟩ : ∃ x, w.drew = x := ⟨_, rfl⟩
  rw [ewd] at g0 r0 hHeld ⊢
  clear ewd
  refine wpAnyH_take (i := 0) (v := ?_) rfl (by kernel_rfl) (by kernel_rfl) (by kernel_rfl) (fun _ _ _ h => h) (Or.inl ⟨by rfl, ?_⟩) hHeld ?_
  rotate_left
  · (intro wz hSw; (try dsimp only at hSw); (try simp only [List.getElem_toArray, List.getElem_cons_zero]); go_simp; try with_reducible rfl)
  try simp only [List.getElem_toArray, List.getElem_cons_zero, Act.put, List.setIfInBounds_toArray, List.set_cons_zero, List.set_cons_succ]
  refine wpAnyH_take (i := 2) (v := ?_) rfl (by kernel_rfl) (by kernel_rfl) (by kernel_rfl) (fun _ _ _ h => h) (Or.inl ⟨by rfl, ?_⟩) hHeld ?_
  rotate_left
  · (intro wz hSw; (try dsimp only at hSw); (try simp only [List.getElem_toArray, List.getElem_cons_succ, List.getElem_cons_zero]); go_simp; try with_reducible rfl)
  try simp only [List.getElem_toArray, List.getElem_cons_succ, List.getElem_cons_zero, Act.put, List.setIfInBounds_toArray, List.set_cons_zero, List.set_cons_succ]
  refine wpAnyH_take (i := 4) (v := ?_) rfl (by kernel_rfl) (by kernel_rfl) (by kernel_rfl) (fun _ _ _ h => h) (Or.inl ⟨by rfl, ?_⟩) hHeld ?_
  rotate_left
  · (intro wz hSw; (try dsimp only at hSw); (try simp only [List.getElem_toArray, List.getElem_cons_succ, List.getElem_cons_zero]); go_simp; try with_reducible rfl)
  try simp only [List.getElem_toArray, List.getElem_cons_succ, List.getElem_cons_zero, Act.put, List.setIfInBounds_toArray, List.set_cons_zero, List.set_cons_succ]
  clear hHeld
  apply cutG (R := fun G w' => w.grownBy w' (some R) ∧ RdW B w' R X2 b2 ∧ w'.heap[G]? = some (.cells [.string a1, .string a2].toArray 65 (0, 0)))
  · intro hcut
    have hHeld := kpB_gr (g := g) hz g0
    refine wpAnyH_ready (rs := [1, 3]) (by kernel_rfl) (by simp) ?_
    refine AllReadyH.cons rfl (fun K hK => ?_) (AllReadyH.cons rfl (fun K hK => ?_) AllReadyH.nil)
    · skip
      try simp only [List.getElem_toArray, List.getElem_cons_succ, List.getElem_cons_zero]
      have kg := KG.out wd g0
      go_simp
      clear kg
      refine hK.out _ _ hHeld (fun _ => ?_)
      clear hK K
      try simp only [List.getElem_toArray, List.getElem_cons_succ, List.getElem_cons_zero, Act.put, List.setIfInBounds_toArray, List.set_cons_zero, List.set_cons_succ]
      refine wpAnyH_ready (rs := [3]) (by kernel_rfl) (by simp) ?_
      refine AllReadyH.cons rfl (fun K hK => ?_) AllReadyH.nil
      try simp only [List.getElem_toArray, List.getElem_cons_succ, List.getElem_cons_zero]
      go_simp
      refine (C1.out _ r0).mono ?_; rintro r w2 ⟨rfl, r2, k2⟩
      have g2 := grown_transW g0 k2
      refine hK.out _ _ (kpB_gr hz g2) (fun _ => ?_)
      clear hK K hHeld
      try simp only [List.getElem_toArray, List.getElem_cons_succ, List.getElem_cons_zero, Act.put, List.setIfInBounds_toArray, List.set_cons_zero, List.set_cons_succ]
      have hHeld := kpB_gr (g := g) hz g2
      refine wpAnyH_ready (rs := [5]) (by kernel_rfl) (by simp) ?_
      refine AllReadyH.cons rfl (fun K hK => ?_) AllReadyH.nil
      try simp only [List.getElem_toArray, List.getElem_cons_succ, List.getElem_cons_zero]
      go_simp
      refine (C2.out _ r2).mono ?_; rintro r w3 ⟨rfl, r3, k3⟩
      have g3 := grown_transW g2 k3
      refine hK.out _ _ (kpB_gr hz g3) (fun _ => ?_)
      clear hK K hHeld
      try simp only [List.getElem_toArray, List.getElem_cons_succ, List.getElem_cons_zero, Act.put, List.setIfInBounds_toArray, List.set_cons_zero, List.set_cons_succ]
      have hHeld := kpB_gr (g := g) hz g3
      refine wpAnyH_take (i := 6) (v := ?_) rfl (by kernel_rfl) (by kernel_rfl) (by kernel_rfl) (fun _ _ _ h => h) (Or.inl ⟨by rfl, ?_⟩) hHeld ?_
      rotate_left
      · (intro wz hSw; (try dsimp only at hSw); (try simp only [List.getElem_toArray, List.getElem_cons_succ, List.getElem_cons_zero]); go_simp; try with_reducible rfl)
      try simp only [List.getElem_toArray, List.getElem_cons_succ, List.getElem_cons_zero, Act.put, List.setIfInBounds_toArray, List.set_cons_zero, List.set_cons_succ]
      refine wpAnyH_ready (rs := [7]) (by kernel_rfl) (by simp) ?_
      refine AllReadyH.cons rfl (fun K hK => ?_) AllReadyH.nil
      try simp only [List.getElem_toArray, List.getElem_cons_succ, List.getElem_cons_zero]
      go_simp
      obtain ⟨wb4, ew4⟩ : ∃ x : World, w3.alloc (.cells #[.string a1, .string a2] 65) = x := ⟨_, rfl⟩
      have bl4 : Below w3.heap.size w3 wb4 := by rw [← ew4]; exact (Below.refl _ _).alloc (Nat.le_refl _) _
      have q4 : wb4.heap[w3.heap.size]? = some (.cells [.string a1, .string a2].toArray 65 (0, 0)) := by rw [← ew4]; exact heap_last w3 _
      have g4 := grown_transW g3 (grown_below bl4 (some R))
      have r4 := r3.keep bl4 (Nat.le_refl _)
      rw [ew4]
      obtain ⟨G, eG4⟩ : ∃ n, w3.heap.size = n := ⟨_, rfl⟩
      try rw [eG4]
      rw [eG4] at q4
      refine hK.out _ _ (kpB_gr hz g4) (fun _ => ?_)
      clear hK K hHeld ew4
      try simp only [List.getElem_toArray, List.getElem_cons_succ, List.getElem_cons_zero, Act.put, List.setIfInBounds_toArray, List.set_cons_zero, List.set_cons_succ]
      have hHeld := kpB_gr (g := g) hz g4
      exact hcut G wb4 ⟨g4, r4, q4⟩
    · skip
      try simp only [List.getElem_toArray, List.getElem_cons_succ, List.getElem_cons_zero]
      go_simp
      refine (C1.out _ r0).mono ?_; rintro r w5 ⟨rfl, r5, k5⟩
      have g5 := grown_transW g0 k5
      refine hK.out _ _ (kpB_gr hz g5) (fun _ => ?_)
      clear hK K hHeld
      try simp only [List.getElem_toArray, List.getElem_cons_succ, List.getElem_cons_zero, Act.put, List.setIfInBounds_toArray, List.set_cons_zero, List.set_cons_succ]
      have hHeld := kpB_gr (g := g) hz g5
      refine wpAnyH_ready (rs := [1, 5]) (by kernel_rfl) (by simp) ?_
      refine AllReadyH.cons rfl (fun K hK => ?_) (AllReadyH.cons rfl (fun K hK => ?_) AllReadyH.nil)
      · skip
        try simp only [List.getElem_toArray, List.getElem_cons_succ, List.getElem_cons_zero]
        have kg := KG.out w5 g5
        go_simp
        clear kg
        refine hK.out _ _ hHeld (fun _ => ?_)
        clear hK K
        try simp only [List.getElem_toArray, List.getElem_cons_succ, List.getElem_cons_zero, Act.put, List.setIfInBounds_toArray, List.set_cons_zero, List.set_cons_succ]
        refine wpAnyH_ready (rs := [5]) (by kernel_rfl) (by simp) ?_
        refine AllReadyH.cons rfl (fun K hK => ?_) AllReadyH.nil
        try simp only [List.getElem_toArray, List.getElem_cons_succ, List.getElem_cons_zero]
        go_simp
        refine (C2.out _ r5).mono ?_; rintro r w7 ⟨rfl, r7, k7⟩
        have g7 := grown_transW g5 k7
        refine hK.out _ _ (kpB_gr hz g7) (fun _ => ?_)
        clear hK K hHeld
        try simp only [List.getElem_toArray, List.getElem_cons_succ, List.getElem_cons_zero, Act.put, List.setIfInBounds_toArray, List.set_cons_zero, List.set_cons_succ]
        have hHeld := kpB_gr (g := g) hz g7
        refine wpAnyH_take (i := 6) (v := ?_) rfl (by kernel_rfl) (by kernel_rfl) (by kernel_rfl) (fun _ _ _ h => h) (Or.inl ⟨by rfl, ?_⟩) hHeld ?_
        rotate_left
        · (intro wz hSw; (try dsimp only at hSw); (try simp only [List.getElem_toArray, List.getElem_cons_succ, List.getElem_cons_zero]); go_simp; try with_reducible rfl)
        try simp only [List.getElem_toArray, List.getElem_cons_succ, List.getElem_cons_zero, Act.put, List.setIfInBounds_toArray, List.set_cons_zero, List.set_cons_succ]
        refine wpAnyH_ready (rs := [7]) (by kernel_rfl) (by simp) ?_
        refine AllReadyH.cons rfl (fun K hK => ?_) AllReadyH.nil
        try simp only [List.getElem_toArray, List.getElem_cons_succ, List.getElem_cons_zero]
        go_simp
        obtain ⟨wb8, ew8⟩ : ∃ x : World, w7.alloc (.cells #[.string a1, .string a2] 65) = x := ⟨_, rfl⟩
        have bl8 : Below w7.heap.size w7 wb8 := by rw [← ew8]; exact (Below.refl _ _).alloc (Nat.le_refl _) _
        have q8 : wb8.heap[w7.heap.size]? = some (.cells [.string a1, .string a2].toArray 65 (0, 0)) := by rw [← ew8]; exact heap_last w7 _
        have g8 := grown_transW g7 (grown_below bl8 (some R))
        have r8 := r7.keep bl8 (Nat.le_refl _)
        rw [ew8]
        obtain ⟨G, eG8⟩ : ∃ n, w7.heap.size = n := ⟨_, rfl⟩
        try rw [eG8]
        rw [eG8] at q8
        refine hK.out _ _ (kpB_gr hz g8) (fun _ => ?_)
        clear hK K hHeld ew8
        try simp only [List.getElem_toArray, List.getElem_cons_succ, List.getElem_cons_zero, Act.put, List.setIfInBounds_toArray, List.set_cons_zero, List.set_cons_succ]
        have hHeld := kpB_gr (g := g) hz g8
        exact hcut G wb8 ⟨g8, r8, q8⟩
      · skip
        try simp only [List.getElem_toArray, List.getElem_cons_succ, List.getElem_cons_zero]
        go_simp
        refine (C2.out _ r5).mono ?_; rintro r w9 ⟨rfl, r9, k9⟩
        have g9 := grown_transW g5 k9
        refine hK.out _ _ (kpB_gr hz g9) (fun _ => ?_)
        clear hK K hHeld
        try simp only [List.getElem_toArray, List.getElem_cons_succ, List.getElem_cons_zero, Act.put, List.setIfInBounds_toArray, List.set_cons_zero, List.set_cons_succ]
        have hHeld := kpB_gr (g := g) hz g9
        refine wpAnyH_take (i := 6) (v := ?_) rfl (by kernel_rfl) (by kernel_rfl) (by kernel_rfl) (fun _ _ _ h => h) (Or.inl ⟨by rfl, ?_⟩) hHeld ?_
        rotate_left
        · (intro wz hSw; (try dsimp only at hSw); (try simp only [List.getElem_toArray, List.getElem_cons_succ, List.getElem_cons_zero]); go_simp; try with_reducible rfl)
        try simp only [List.getElem_toArray, List.getElem_cons_succ, List.getElem_cons_zero, Act.put, List.setIfInBounds_toArray, List.set_cons_zero, List.set_cons_succ]
        refine wpAnyH_ready (rs := [1, 7]) (by kernel_rfl) (by simp) ?_
        refine AllReadyH.cons rfl (fun K hK => ?_) (AllReadyH.cons rfl (fun K hK => ?_) AllReadyH.nil)
        · skip
          try simp only [List.getElem_toArray, List.getElem_cons_succ, List.getElem_cons_zero]
          have kg := KG.out w9 g9
          go_simp
          clear kg
          refine hK.out _ _ hHeld (fun _ => ?_)
          clear hK K
          try simp only [List.getElem_toArray, List.getElem_cons_succ, List.getElem_cons_zero, Act.put, List.setIfInBounds_toArray, List.set_cons_zero, List.set_cons_succ]
          refine wpAnyH_ready (rs := [7]) (by kernel_rfl) (by simp) ?_
          refine AllReadyH.cons rfl (fun K hK => ?_) AllReadyH.nil
          try simp only [List.getElem_toArray, List.getElem_cons_succ, List.getElem_cons_zero]
          go_simp
          obtain ⟨wb11, ew11⟩ : ∃ x : World, w9.alloc (.cells #[.string a1, .string a2] 65) = x := ⟨_, rfl⟩
          have bl11 : Below w9.heap.size w9 wb11 := by rw [← ew11]; exact (Below.refl _ _).alloc (Nat.le_refl _) _
          have q11 : wb11.heap[w9.heap.size]? = some (.cells [.string a1, .string a2].toArray 65 (0, 0)) := by rw [← ew11]; exact heap_last w9 _
          have g11 := grown_transW g9 (grown_below bl11 (some R))
          have r11 := r9.keep bl11 (Nat.le_refl _)
          rw [ew11]
          obtain ⟨G, eG11⟩ : ∃ n, w9.heap.size = n := ⟨_, rfl⟩
          try rw [eG11]
          rw [eG11] at q11
          refine hK.out _ _ (kpB_gr hz g11) (fun _ => ?_)
          clear hK K hHeld ew11
          try simp only [List.getElem_toArray, List.getElem_cons_succ, List.getElem_cons_zero, Act.put, List.setIfInBounds_toArray, List.set_cons_zero, List.set_cons_succ]
          have hHeld := kpB_gr (g := g) hz g11
          exact hcut G wb11 ⟨g11, r11, q11⟩
        · skip
          try simp only [List.getElem_toArray, List.getElem_cons_succ, List.getElem_cons_zero]
          go_simp
          obtain ⟨wb12, ew12⟩ : ∃ x : World, w9.alloc (.cells #[.string a1, .string a2] 65) = x := ⟨_, rfl⟩
          have bl12 : Below w9.heap.size w9 wb12 := by rw [← ew12]; exact (Below.refl _ _).alloc (Nat.le_refl _) _
          have q12 : wb12.heap[w9.heap.size]? = some (.cells [.string a1, .string a2].toArray 65 (0, 0)) := by rw [← ew12]; exact heap_last w9 _
          have g12 := grown_transW g9 (grown_below bl12 (some R))
          have r12 := r9.keep bl12 (Nat.le_refl _)
          rw [ew12]
          obtain ⟨G, eG12⟩ : ∃ n, w9.heap.size = n := ⟨_, rfl⟩
          try rw [eG12]
          rw [eG12] at q12
          refine hK.out _ _ (kpB_gr hz g12) (fun _ => ?_)
          clear hK K hHeld ew12
          try simp only [List.getElem_toArray, List.getElem_cons_succ, List.getElem_cons_zero, Act.put, List.setIfInBounds_toArray, List.set_cons_zero, List.set_cons_succ]
          have hHeld := kpB_gr (g := g) hz g12
          refine wpAnyH_ready (rs := [1]) (by kernel_rfl) (by simp) ?_
          refine AllReadyH.cons rfl (fun K hK => ?_) AllReadyH.nil
          try simp only [List.getElem_toArray, List.getElem_cons_succ, List.getElem_cons_zero]
          have kg := KG.out wb12 g12
          go_simp
          clear kg
          refine hK.out _ _ hHeld (fun _ => ?_)
          clear hK K
          try simp only [List.getElem_toArray, List.getElem_cons_succ, List.getElem_cons_zero, Act.put, List.setIfInBounds_toArray, List.set_cons_zero, List.set_cons_succ]
          exact hcut G wb12 ⟨g12, r12, q12⟩
  intro G wL hR
  obtain ⟨gL, rL, qL⟩ := hR
  have hHeld := kpB_gr (g := g) hz gL
  refine wpAnyH_ready (rs := [8]) (by kernel_rfl) (by simp) ?_; refine AllReadyH.cons rfl (fun K hK => ?_) AllReadyH.nil
  rw [if_pos (by rfl)]
  have hne : v.ownBlock = none ∨ v.ownBlock ≠ some R := by
    cases e : v.ownBlock with
    | none => exact .inl rfl
    | some x => exact .inr fun h => by have := (HO.out.lt x e).1; simp only [Option.some.injEq] at h; omega
  have hoL := HO.out.kept gL hne
  refine wp_append_one _ _ 26 (by rfl) base 65 i0 _ 2 32 Try.underlying26 hi hz0 hz1 hz2 rfl (by decide) v acc.length (spR acc) (by rfl) hoL G [.string a1, .string a2] 65 (by rfl) qL rfl (by intro u hu; simp only [List.mem_cons, List.not_mem_nil, or_false] at hu; rcases hu with rfl | rfl <;> rfl) (by unfold maxLen; omega) (by omega) (Nat.le_trans hz gL.size) ?_
  intro v2 wA ho2 hg2 hat
  obtain ⟨g2, cap2, hv2⟩ : ∃ g2 cap2, v2 = .slice (some ⟨g2, 0, none⟩) (acc.length + 1) cap2 := by
    rcases ho2.2 with ⟨-, h⟩ | ⟨g2, cap2, cur2, e, -⟩
    · omega
    · exact ⟨g2, cap2, e⟩
  subst hv2
  have rB : ∀ k, v.ownBlock = some k → base ≤ k := fun k hk => (HO.out.lt k hk).1
  have hGL := rd_stays gL HG.out (by omega)
  have hTL := rd_stays gL HT.out (by omega)
  have rA := rL.row hg2 (fun k hk => by have := rB k hk; omega)
  have hGA := (hg2.block g (block_lt hGL) (fun e => by have := rB g e.symm; omega)).trans hGL
  have hTA := (hg2.block T (block_lt hTL) (fun e => by have := rB T e.symm; omega)).trans hTL
  have hBA : w0.grownBy wA (some R) := grown_row (grown_transW HB.out gL) hg2 (fun k hk => by have := rB k hk; omega)
  have hzA : base ≤ wA.heap.size := Nat.le_trans hz (Nat.le_trans gL.size hg2.size)
  have hSA : KpB base R g w wA := fun k hk hr hgk => (hg2.block k (by have := gL.size; omega) (fun e => by have := rB k e.symm; omega)).trans (hHeld k hk hr hgk)
  refine hK.out _ _ hSA (fun _ => ?_)
  clear hK K hHeld gL rL qL hoL hg2 hat hGL hTL KG
  try simp only [List.getElem_toArray, List.getElem_cons_succ, List.getElem_cons_zero, Act.put, List.setIfInBounds_toArray, List.set_cons_zero, List.set_cons_succ]
  have hHeld := hSA
  refine wpAnyH_take (i := 9) (v := ?_) rfl (by kernel_rfl) (by kernel_rfl) (by kernel_rfl) (fun _ _ _ h => h) (Or.inl ⟨by rfl, ?_⟩) hHeld ?_
  rotate_left
  · (intro wz hSw; (try dsimp only at hSw); (try simp only [List.getElem_toArray, List.getElem_cons_succ, List.getElem_cons_zero]); go_simp; try with_reducible rfl)
  try simp only [List.getElem_toArray, List.getElem_cons_succ, List.getElem_cons_zero, Act.put, List.setIfInBounds_toArray, List.set_cons_zero, List.set_cons_succ]
  have kg := block_cells hGA
  have fg := block_free hGA
  refine wpAnyH_ready (rs := [10]) (by kernel_rfl) (by simp) ?_; refine AllReadyH.cons rfl (fun K hK => ?_) AllReadyH.nil; (try simp only [List.getElem_toArray, List.getElem_cons_succ, List.getElem_cons_zero]); go_simp
  have hGB := (cells_setW hGA 12 (Value.slice (some ⟨g2, 0, none⟩) (acc.length + 1) cap2)).trans rfl
  have hTB := (Below.heap_setCell wA ⟨g, 12, none⟩ (Value.slice (some ⟨g2, 0, none⟩) (acc.length + 1) cap2) T (by show T ≠ g; omega)).trans hTA
  have rC : RdW B (wA.setCell ⟨g, 12, none⟩ (Value.slice (some ⟨g2, 0, none⟩) (acc.length + 1) cap2)) R X2 b2 := ⟨rA.r.setFar rg (Value.slice (some ⟨g2, 0, none⟩) (acc.length + 1) cap2), rA.o, rA.l⟩
  have hBB := grown_setFar (j := 12) (v := (Value.slice (some ⟨g2, 0, none⟩) (acc.length + 1) cap2)) hBA ng
  have hoB := ho2.kept (grown_set wA g 12 (Value.slice (some ⟨g2, 0, none⟩) (acc.length + 1) cap2)) (by
    cases e : ((Value.slice (some ⟨g2, 0, none⟩) (acc.length + 1) cap2)).ownBlock with
    | none => exact .inl rfl
    | some x => exact .inr fun h => by have := (ho2.lt x e).1; simp only [Option.some.injEq] at h; omega)
  have hSB : KpB base R g w (wA.setCell ⟨g, 12, none⟩ (Value.slice (some ⟨g2, 0, none⟩) (acc.length + 1) cap2)) := fun k hk hr hgk => (Below.heap_setCell wA ⟨g, 12, none⟩ (Value.slice (some ⟨g2, 0, none⟩) (acc.length + 1) cap2) k hgk).trans (hSA k hk hr hgk)
  refine hK.out _ _ hSB (fun _ => ?_)
  clear hK K hHeld kg fg
  try simp only [List.getElem_toArray, List.getElem_cons_succ, List.getElem_cons_zero, Act.put, List.setIfInBounds_toArray, List.set_cons_zero, List.set_cons_succ]
  refine wpAnyH_done (by kernel_rfl) ?_ _
  go_wp2_with fail
  first | go_end0 | go_ret
  rw [HR.out]
  refine ⟨rfl, rC, ⟨⟨(Value.slice (some ⟨g2, 0, none⟩) (acc.length + 1) cap2), hGB, ?_⟩, hTB, hBB, by simpa [World.setCell] using hzA, hkp.trans hSB⟩⟩
  have e1 : spR (acc ++ [⟨a1, a2⟩]) = spR acc ++ [.string a1, .string a2] := by simp [spR]
  rw [e1, List.length_append]; exact hoB
set_option maxRecDepth 100000 in
set_option maxHeartbeats 8000000 in
theorem cmdWr_any (B R T g base : Nat) (w0 wS : World) (x0 x1 x2 x3 x4 x5 x6 x7 x8 x9 x10 x11 x12 : Value) (acc : List WrX) (ys : List Int) (b : Bool) (w : World) (p : LsP w0.heap.size R T g base) (hl : acc.length ≤ 65536) (h : RdW B w R ys b) (hJ : LsJ B R T g base w0 wS (fun v => #[x0, x1, x2, x3, x4, x5, x6, x7, x8, x9, x10, x11, x12, v]) 29 67 3 wrR acc w) :
    Calls Try.prog 64 #[.pointer (some ⟨g, 0, none⟩), .pointer (some ⟨T, 0, none⟩)] w fun e w' => e = .returned (.tuple #[]) ∧ RdW B w' R (rdWr ys b).2.1 (rdWr ys b).2.2 ∧ LsJ B R T g base w0 wS (fun v => #[x0, x1, x2, x3, x4, x5, x6, x7, x8, x9, x10, x11, x12, v]) 29 67 3 wrR (acc ++ [(rdWr ys b).1]) w' := by
  obtain ⟨ng, rt, rg, gt, gb, tb⟩ := p
  obtain ⟨⟨v, hg, ho⟩, hT, hB, hz, hkp⟩ := hJ
  obtain ⟨⟨a1, X1, b1⟩, hr1⟩ : ∃ r, rdTw ys b = r := ⟨_, rfl⟩
  have C1 : Hid (∀ w', RdW B w' R ys b → Calls Try.prog 63 #[.pointer (some ⟨R, 0, none⟩)] w' fun e w'' => e = .returned (.string a1) ∧ RdW B w'' R X1 b1 ∧ w'.grownBy w'' (some R)) := fun w' h => by
    have := rtext_any B R ys b w' h; rw [hr1] at this; exact this
  obtain ⟨⟨a2, X2, b2⟩, hr2⟩ : ∃ r, rdFw X1 b1 = r := ⟨_, rfl⟩
  have C2 : Hid (∀ w', RdW B w' R X1 b1 → Calls Try.prog 60 #[.pointer (some ⟨R, 0, none⟩)] w' fun e w'' => e = .returned (.bool a2) ∧ RdW B w'' R X2 b2 ∧ w'.grownBy w'' (some R)) := fun w' h => by
    have := rflagE B R X1 b1 w' h; rw [hr2] at this; exact this
  obtain ⟨⟨a3, X3, b3⟩, hr3⟩ : ∃ r, rdTw X2 b2 = r := ⟨_, rfl⟩
  have C3 : Hid (∀ w', RdW B w' R X2 b2 → Calls Try.prog 63 #[.pointer (some ⟨R, 0, none⟩)] w' fun e w'' => e = .returned (.string a3) ∧ RdW B w'' R X3 b3 ∧ w'.grownBy w'' (some R)) := fun w' h => by
    have := rtext_any B R X2 b2 w' h; rw [hr3] at this; exact this
  have HR : Hid (rdWr ys b = (⟨a1, a2, a3⟩, X3, b3)) := rdMap_is (rd2_is hr1 (rd2_is hr2 hr3))
  have H0 := Lib.hid h; have HT := Lib.hid hT; have HG := Lib.hid hg; have HO := Lib.hid ho; have HB := Lib.hid hB
  obtain ⟨i0, hi, hz0, hz1, hz2⟩ := info_parts Try.infoWr
  clear h hT hg ho hB hr1 hr2 hr3
  go_enter Try.func64, Try.ntmps64
  have kT : ∀ w', KpB base R g w w' → ∀ j, w'.cell? ⟨T, j, none⟩ = #[.pointer (some ⟨R, 0, none⟩)][j]? := fun w' h => block_cells ((h T (by omega) (by omega) (by omega)).trans HT.out)
  have KG : Hid (∀ w', w.grownBy w' (some R) → ∀ j, w'.cell? ⟨g, j, none⟩ = #[x0, x1, x2, x3, x4, x5, x6, x7, x8, x9, x10, x11, x12, v][j]?) := fun w' h => block_cells (rd_stays h HG.out (by omega))
  have g0 : w.grownBy w.drew (some R) := grown_drewW (grown_refl w _)
  have r0 := H0.out.drew
  refine wp_region_held_drew (S := fun w' => KpB base R g w w') (by kernel_rfl) (kpB_gr hz g0) (fun hHeld => ?_)
  obtain ⟨wd, ewd⟩ : ∃ x, w.drew = x := ⟨_, rfl⟩
  rw [ewd] at g0 r0 hHeld ⊢
  clear ewd
  refine wpAnyH_take (i := 0) (v := ?_) rfl (by kernel_rfl) (by kernel_rfl) (by kernel_rfl) (fun _ _ _ h => h) (Or.inl ⟨by rfl, ?_⟩) hHeld ?_
  rotate_left
  · (intro wz hSw; (try dsimp only at hSw); (try simp only [List.getElem_toArray, List.getElem_cons_zero]); go_simp; try with_reducible rfl)
  try simp only [List.getElem_toArray, List.getElem_cons_zero, Act.put, List.setIfInBounds_toArray, List.set_cons_zero, List.set_cons_succ]
  refine wpAnyH_take (i := 2) (v := ?_) rfl (by kernel_rfl) (by kernel_rfl) (by kernel_rfl) (fun _ _ _ h => h) (Or.inl ⟨by rfl, ?_⟩) hHeld ?_
  rotate_left
  · (intro wz hSw; (try dsimp only at hSw); (try simp only [List.getElem_toArray, List.getElem_cons_succ, List.getElem_cons_zero]); go_simp; try with_reducible rfl)
  try simp only [List.getElem_toArray, List.getElem_cons_succ, List.getElem_cons_zero, Act.put, List.setIfInBounds_toArray, List.set_cons_zero, List.set_cons_succ]
  refine wpAnyH_take (i := 4) (v := ?_) rfl (by kernel_rfl) (by kernel_rfl) (by kernel_rfl) (fun _ _ _ h => h) (Or.inl ⟨by rfl, ?_⟩) hHeld ?_
  rotate_left
  · (intro wz hSw; (try dsimp only at hSw); (try simp only [List.getElem_toArray, List.getElem_cons_succ, List.getElem_cons_zero]); go_simp; try with_reducible rfl)
  try simp only [List.getElem_toArray, List.getElem_cons_succ, List.getElem_cons_zero, Act.put, List.setIfInBounds_toArray, List.set_cons_zero, List.set_cons_succ]
  refine wpAnyH_take (i := 6) (v := ?_) rfl (by kernel_rfl) (by kernel_rfl) (by kernel_rfl) (fun _ _ _ h => h) (Or.inl ⟨by rfl, ?_⟩) hHeld ?_
  rotate_left
  · (intro wz hSw; (try dsimp only at hSw); (try simp only [List.getElem_toArray, List.getElem_cons_succ, List.getElem_cons_zero]); go_simp; try with_reducible rfl)
  try simp only [List.getElem_toArray, List.getElem_cons_succ, List.getElem_cons_zero, Act.put, List.setIfInBounds_toArray, List.set_cons_zero, List.set_cons_succ]
  clear hHeld
  apply cutG (R := fun G w' => w.grownBy w' (some R) ∧ RdW B w' R X3 b3 ∧ w'.heap[G]? = some (.cells [.string a1, .bool a2, .string a3].toArray 67 (0, 0)))
  · intro hcut
    have hHeld := kpB_gr (g := g) hz g0
    refine wpAnyH_ready (rs := [1, 3]) (by kernel_rfl) (by simp) ?_
    refine AllReadyH.cons rfl (fun K hK => ?_) (AllReadyH.cons rfl (fun K hK => ?_) AllReadyH.nil)
    · skip
      try simp only [List.getElem_toArray, List.getElem_cons_succ, List.getElem_cons_zero]
      have kg := KG.out wd g0
      go_simp
      clear kg
      refine hK.out _ _ hHeld (fun _ => ?_)
      clear hK K
      try simp only [List.getElem_toArray, List.getElem_cons_succ, List.getElem_cons_zero, Act.put, List.setIfInBounds_toArray, List.set_cons_zero, List.set_cons_succ]
      refine wpAnyH_ready (rs := [3]) (by kernel_rfl) (by simp) ?_
      refine AllReadyH.cons rfl (fun K hK => ?_) AllReadyH.nil
      try simp only [List.getElem_toArray, List.getElem_cons_succ, List.getElem_cons_zero]
      go_simp
      refine (C1.out _ r0).mono ?_; rintro r w2 ⟨rfl, r2, k2⟩
      have g2 := grown_transW g0 k2
      refine hK.out _ _ (kpB_gr hz g2) (fun _ => ?_)
      clear hK K hHeld
      try simp only [List.getElem_toArray, List.getElem_cons_succ, List.getElem_cons_zero, Act.put, List.setIfInBounds_toArray, List.set_cons_zero, List.set_cons_succ]
      have hHeld := kpB_gr (g := g) hz g2
      refine wpAnyH_ready (rs := [5]) (by kernel_rfl) (by simp) ?_
      refine AllReadyH.cons rfl (fun K hK => ?_) AllReadyH.nil
      try simp only [List.getElem_toArray, List.getElem_cons_succ, List.getElem_cons_zero]
      go_simp
      refine (C2.out _ r2).mono ?_; rintro r w3 ⟨rfl, r3, k3⟩
      have g3 := grown_transW g2 k3
      refine hK.out _ _ (kpB_gr hz g3) (fun _ => ?_)
      clear hK K hHeld
      try simp only [List.getElem_toArray, List.getElem_cons_succ, List.getElem_cons_zero, Act.put, List.setIfInBounds_toArray, List.set_cons_zero, List.set_cons_succ]
      have hHeld := kpB_gr (g := g) hz g3
      refine wpAnyH_ready (rs := [7]) (by kernel_rfl) (by simp) ?_
      refine AllReadyH.cons rfl (fun K hK => ?_) AllReadyH.nil
      try simp only [List.getElem_toArray, List.getElem_cons_succ, List.getElem_cons_zero]
      go_simp
      refine (C3.out _ r3).mono ?_; rintro r w4 ⟨rfl, r4, k4⟩
      have g4 := grown_transW g3 k4
      refine hK.out _ _ (kpB_gr hz g4) (fun _ => ?_)
      clear hK K hHeld
      try simp only [List.getElem_toArray, List.getElem_cons_succ, List.getElem_cons_zero, Act.put, List.setIfInBounds_toArray, List.set_cons_zero, List.set_cons_succ]
      have hHeld := kpB_gr (g := g) hz g4
      refine wpAnyH_take (i := 8) (v := ?_) rfl (by kernel_rfl) (by kernel_rfl) (by kernel_rfl) (fun _ _ _ h => h) (Or.inl ⟨by rfl, ?_⟩) hHeld ?_
      rotate_left
      · (intro wz hSw; (try dsimp only at hSw); (try simp only [List.getElem_toArray, List.getElem_cons_succ, List.getElem_cons_zero]); go_simp; try with_reducible rfl)
      try simp only [List.getElem_toArray, List.getElem_cons_succ, List.getElem_cons_zero, Act.put, List.setIfInBounds_toArray, List.set_cons_zero, List.set_cons_succ]
      refine wpAnyH_ready (rs := [9]) (by kernel_rfl) (by simp) ?_
      refine AllReadyH.cons rfl (fun K hK => ?_) AllReadyH.nil
      try simp only [List.getElem_toArray, List.getElem_cons_succ, List.getElem_cons_zero]
      go_simp
      obtain ⟨wb5, ew5⟩ : ∃ x : World, w4.alloc (.cells #[.string a1, .bool a2, .string a3] 67) = x := ⟨_, rfl⟩
      have bl5 : Below w4.heap.size w4 wb5 := by rw [← ew5]; exact (Below.refl _ _).alloc (Nat.le_refl _) _
      have q5 : wb5.heap[w4.heap.size]? = some (.cells [.string a1, .bool a2, .string a3].toArray 67 (0, 0)) := by rw [← ew5]; exact heap_last w4 _
      have g5 := grown_transW g4 (grown_below bl5 (some R))
      have r5 := r4.keep bl5 (Nat.le_refl _)
      rw [ew5]
      obtain ⟨G, eG5⟩ : ∃ n, w4.heap.size = n := ⟨_, rfl⟩
      try rw [eG5]
      rw [eG5] at q5
      refine hK.out _ _ (kpB_gr hz g5) (fun _ => ?_)
      clear hK K hHeld ew5
      try simp only [List.getElem_toArray, List.getElem_cons_succ, List.getElem_cons_zero, Act.put, List.setIfInBounds_toArray, List.set_cons_zero, List.set_cons_succ]
      have hHeld := kpB_gr (g := g) hz g5
      exact hcut G wb5 ⟨g5, r5, q5⟩
    · skip
      try simp only [List.getElem_toArray, List.getElem_cons_succ, List.getElem_cons_zero]
      go_simp
      refine (C1.out _ r0).mono ?_; rintro r w6 ⟨rfl, r6, k6⟩
      have g6 := grown_transW g0 k6
      refine hK.out _ _ (kpB_gr hz g6) (fun _ => ?_)
      clear hK K hHeld
      try simp only [List.getElem_toArray, List.getElem_cons_succ, List.getElem_cons_zero, Act.put, List.setIfInBounds_toArray, List.set_cons_zero, List.set_cons_succ]
      have hHeld := kpB_gr (g := g) hz g6
      refine wpAnyH_ready (rs := [1, 5]) (by kernel_rfl) (by simp) ?_
      refine AllReadyH.cons rfl (fun K hK => ?_) (AllReadyH.cons rfl (fun K hK => ?_) AllReadyH.nil)
      · skip
        try simp only [List.getElem_toArray, List.getElem_cons_succ, List.getElem_cons_zero]
        have kg := KG.out w6 g6
        go_simp
        clear kg
        refine hK.out _ _ hHeld (fun _ => ?_)
        clear hK K
        try simp only [List.getElem_toArray, List.getElem_cons_succ, List.getElem_cons_zero, Act.put, List.setIfInBounds_toArray, List.set_cons_zero, List.set_cons_succ]
        refine wpAnyH_ready (rs := [5]) (by kernel_rfl) (by simp) ?_
        refine AllReadyH.cons rfl (fun K hK => ?_) AllReadyH.nil
        try simp only [List.getElem_toArray, List.getElem_cons_succ, List.getElem_cons_zero]
        go_simp
        refine (C2.out _ r6).mono ?_; rintro r w8 ⟨rfl, r8, k8⟩
        have g8 := grown_transW g6 k8
        refine hK.out _ _ (kpB_gr hz g8) (fun _ => ?_)
        clear hK K hHeld
        try simp only [List.getElem_toArray, List.getElem_cons_succ, List.getElem_cons_zero, Act.put, List.setIfInBounds_toArray, List.set_cons_zero, List.set_cons_succ]
        have hHeld := kpB_gr (g := g) hz g8
        refine wpAnyH_ready (rs := [7]) (by kernel_rfl) (by simp) ?_
        refine AllReadyH.cons rfl (fun K hK => ?_) AllReadyH.nil
        try simp only [List.getElem_toArray, List.getElem_cons_succ, List.getElem_cons_zero]
        go_simp
        refine (C3.out _ r8).mono ?_; rintro r w9 ⟨rfl, r9, k9⟩
        have g9 := grown_transW g8 k9
        refine hK.out _ _ (kpB_gr hz g9) (fun _ => ?_)
        clear hK K hHeld
        try simp only [List.getElem_toArray, List.getElem_cons_succ, List.getElem_cons_zero, Act.put, List.setIfInBounds_toArray, List.set_cons_zero, List.set_cons_succ]
        have hHeld := kpB_gr (g := g) hz g9
        refine wpAnyH_take (i := 8) (v := ?_) rfl (by kernel_rfl) (by kernel_rfl) (by kernel_rfl) (fun _ _ _ h => h) (Or.inl ⟨by rfl, ?_⟩) hHeld ?_
        rotate_left
        · (intro wz hSw; (try dsimp only at hSw); (try simp only [List.getElem_toArray, List.getElem_cons_succ, List.getElem_cons_zero]); go_simp; try with_reducible rfl)
        try simp only [List.getElem_toArray, List.getElem_cons_succ, List.getElem_cons_zero, Act.put, List.setIfInBounds_toArray, List.set_cons_zero, List.set_cons_succ]
        refine wpAnyH_ready (rs := [9]) (by kernel_rfl) (by simp) ?_
        refine AllReadyH.cons rfl (fun K hK => ?_) AllReadyH.nil
        try simp only [List.getElem_toArray, List.getElem_cons_succ, List.getElem_cons_zero]
        go_simp
        obtain ⟨wb10, ew10⟩ : ∃ x : World, w9.alloc (.cells #[.string a1, .bool a2, .string a3] 67) = x := ⟨_, rfl⟩
        have bl10 : Below w9.heap.size w9 wb10 := by rw [← ew10]; exact (Below.refl _ _).alloc (Nat.le_refl _) _
        have q10 : wb10.heap[w9.heap.size]? = some (.cells [.string a1, .bool a2, .string a3].toArray 67 (0, 0)) := by rw [← ew10]; exact heap_last w9 _
        have g10 := grown_transW g9 (grown_below bl10 (some R))
        have r10 := r9.keep bl10 (Nat.le_refl _)
        rw [ew10]
        obtain ⟨G, eG10⟩ : ∃ n, w9.heap.size = n := ⟨_, rfl⟩
        try rw [eG10]
        rw [eG10] at q10
        refine hK.out _ _ (kpB_gr hz g10) (fun _ => ?_)
        clear hK K hHeld ew10
        try simp only [List.getElem_toArray, List.getElem_cons_succ, List.getElem_cons_zero, Act.put, List.setIfInBounds_toArray, List.set_cons_zero, List.set_cons_succ]
        have hHeld := kpB_gr (g := g) hz g10
        exact hcut G wb10 ⟨g10, r10, q10⟩
      · skip
        try simp only [List.getElem_toArray, List.getElem_cons_succ, List.getElem_cons_zero]
        go_simp
        refine (C2.out _ r6).mono ?_; rintro r w11 ⟨rfl, r11, k11⟩
        have g11 := grown_transW g6 k11
        refine hK.out _ _ (kpB_gr hz g11) (fun _ => ?_)
        clear hK K hHeld
        try simp only [List.getElem_toArray, List.getElem_cons_succ, List.getElem_cons_zero, Act.put, List.setIfInBounds_toArray, List.set_cons_zero, List.set_cons_succ]
        have hHeld := kpB_gr (g := g) hz g11
        refine wpAnyH_ready (rs := [1, 7]) (by kernel_rfl) (by simp) ?_
        refine AllReadyH.cons rfl (fun K hK => ?_) (AllReadyH.cons rfl (fun K hK => ?_) AllReadyH.nil)
        · skip
          try simp only [List.getElem_toArray, List.getElem_cons_succ, List.getElem_cons_zero]
          have kg := KG.out w11 g11
          go_simp
          clear kg
          refine hK.out _ _ hHeld (fun _ => ?_)
          clear hK K
          try simp only [List.getElem_toArray, List.getElem_cons_succ, List.getElem_cons_zero, Act.put, List.setIfInBounds_toArray, List.set_cons_zero, List.set_cons_succ]
          refine wpAnyH_ready (rs := [7]) (by kernel_rfl) (by simp) ?_
          refine AllReadyH.cons rfl (fun K hK => ?_) AllReadyH.nil
          try simp only [List.getElem_toArray, List.getElem_cons_succ, List.getElem_cons_zero]
          go_simp
          refine (C3.out _ r11).mono ?_; rintro r w13 ⟨rfl, r13, k13⟩
          have g13 := grown_transW g11 k13
          refine hK.out _ _ (kpB_gr hz g13) (fun _ => ?_)
          clear hK K hHeld
          try simp only [List.getElem_toArray, List.getElem_cons_succ, List.getElem_cons_zero, Act.put, List.setIfInBounds_toArray, List.set_cons_zero, List.set_cons_succ]
          have hHeld := kpB_gr (g := g) hz g13
          refine wpAnyH_take (i := 8) (v := ?_) rfl (by kernel_rfl) (by kernel_rfl) (by kernel_rfl) (fun _ _ _ h => h) (Or.inl ⟨by rfl, ?_⟩) hHeld ?_
          rotate_left
          · (intro wz hSw; (try dsimp only at hSw); (try simp only [List.getElem_toArray, List.getElem_cons_succ, List.getElem_cons_zero]); go_simp; try with_reducible rfl)
          try simp only [List.getElem_toArray, List.getElem_cons_succ, List.getElem_cons_zero, Act.put, List.setIfInBounds_toArray, List.set_cons_zero, List.set_cons_succ]
          refine wpAnyH_ready (rs := [9]) (by kernel_rfl) (by simp) ?_
          refine AllReadyH.cons rfl (fun K hK => ?_) AllReadyH.nil
          try simp only [List.getElem_toArray, List.getElem_cons_succ, List.getElem_cons_zero]
          go_simp
          obtain ⟨wb14, ew14⟩ : ∃ x : World, w13.alloc (.cells #[.string a1, .bool a2, .string a3] 67) = x := ⟨_, rfl⟩
          have bl14 : Below w13.heap.size w13 wb14 := by rw [← ew14]; exact (Below.refl _ _).alloc (Nat.le_refl _) _
          have q14 : wb14.heap[w13.heap.size]? = some (.cells [.string a1, .bool a2, .string a3].toArray 67 (0, 0)) := by rw [← ew14]; exact heap_last w13 _
          have g14 := grown_transW g13 (grown_below bl14 (some R))
          have r14 := r13.keep bl14 (Nat.le_refl _)
          rw [ew14]
          obtain ⟨G, eG14⟩ : ∃ n, w13.heap.size = n := ⟨_, rfl⟩
          try rw [eG14]
          rw [eG14] at q14
          refine hK.out _ _ (kpB_gr hz g14) (fun _ => ?_)
          clear hK K hHeld ew14
          try simp only [List.getElem_toArray, List.getElem_cons_succ, List.getElem_cons_zero, Act.put, List.setIfInBounds_toArray, List.set_cons_zero, List.set_cons_succ]
          have hHeld := kpB_gr (g := g) hz g14
          exact hcut G wb14 ⟨g14, r14, q14⟩
        · skip
          try simp only [List.getElem_toArray, List.getElem_cons_succ, List.getElem_cons_zero]
          go_simp
          refine (C3.out _ r11).mono ?_; rintro r w15 ⟨rfl, r15, k15⟩
          have g15 := grown_transW g11 k15
          refine hK.out _ _ (kpB_gr hz g15) (fun _ => ?_)
          clear hK K hHeld
          try simp only [List.getElem_toArray, List.getElem_cons_succ, List.getElem_cons_zero, Act.put, List.setIfInBounds_toArray, List.set_cons_zero, List.set_cons_succ]
          have hHeld := kpB_gr (g := g) hz g15
          refine wpAnyH_take (i := 8) (v := ?_) rfl (by kernel_rfl) (by kernel_rfl) (by kernel_rfl) (fun _ _ _ h => h) (Or.inl ⟨by rfl, ?_⟩) hHeld ?_
          rotate_left
          · (intro wz hSw; (try dsimp only at hSw); (try simp only [List.getElem_toArray, List.getElem_cons_succ, List.getElem_cons_zero]); go_simp; try with_reducible rfl)
          try simp only [List.getElem_toArray, List.getElem_cons_succ, List.getElem_cons_zero, Act.put, List.setIfInBounds_toArray, List.set_cons_zero, List.set_cons_succ]
          refine wpAnyH_ready (rs := [1, 9]) (by kernel_rfl) (by simp) ?_
          refine AllReadyH.cons rfl (fun K hK => ?_) (AllReadyH.cons rfl (fun K hK => ?_) AllReadyH.nil)
          · skip
            try simp only [List.getElem_toArray, List.getElem_cons_succ, List.getElem_cons_zero]
            have kg := KG.out w15 g15
            go_simp
            clear kg
            refine hK.out _ _ hHeld (fun _ => ?_)
            clear hK K
            try simp only [List.getElem_toArray, List.getElem_cons_succ, List.getElem_cons_zero, Act.put, List.setIfInBounds_toArray, List.set_cons_zero, List.set_cons_succ]
            refine wpAnyH_ready (rs := [9]) (by kernel_rfl) (by simp) ?_
            refine AllReadyH.cons rfl (fun K hK => ?_) AllReadyH.nil
            try simp only [List.getElem_toArray, List.getElem_cons_succ, List.getElem_cons_zero]
            go_simp
            obtain ⟨wb17, ew17⟩ : ∃ x : World, w15.alloc (.cells #[.string a1, .bool a2, .string a3] 67) = x := ⟨_, rfl⟩
            have bl17 : Below w15.heap.size w15 wb17 := by rw [← ew17]; exact (Below.refl _ _).alloc (Nat.le_refl _) _
            have q17 : wb17.heap[w15.heap.size]? = some (.cells [.string a1, .bool a2, .string a3].toArray 67 (0, 0)) := by rw [← ew17]; exact heap_last w15 _
            have g17 := grown_transW g15 (grown_below bl17 (some R))
            have r17 := r15.keep bl17 (Nat.le_refl _)
            rw [ew17]
            obtain ⟨G, eG17⟩ : ∃ n, w15.heap.size = n := ⟨_, rfl⟩
            try rw [eG17]
            rw [eG17] at q17
            refine hK.out _ _ (kpB_gr hz g17) (fun _ => ?_)
            clear hK K hHeld ew17
            try simp only [List.getElem_toArray, List.getElem_cons_succ, List.getElem_cons_zero, Act.put, List.setIfInBounds_toArray, List.set_cons_zero, List.set_cons_succ]
            have hHeld := kpB_gr (g := g) hz g17
            exact hcut G wb17 ⟨g17, r17, q17⟩
          · skip
            try simp only [List.getElem_toArray, List.getElem_cons_succ, List.getElem_cons_zero]
            go_simp
            obtain ⟨wb18, ew18⟩ : ∃ x : World, w15.alloc (.cells #[.string a1, .bool a2, .string a3] 67) = x := ⟨_, rfl⟩
            have bl18 : Below w15.heap.size w15 wb18 := by rw [← ew18]; exact (Below.refl _ _).alloc (Nat.le_refl _) _
            have q18 : wb18.heap[w15.heap.size]? = some (.cells [.string a1, .bool a2, .string a3].toArray 67 (0, 0)) := by rw [← ew18]; exact heap_last w15 _
            have g18 := grown_transW g15 (grown_below bl18 (some R))
            have r18 := r15.keep bl18 (Nat.le_refl _)
            rw [ew18]
            obtain ⟨G, eG18⟩ : ∃ n, w15.heap.size = n := ⟨_, rfl⟩
            try rw [eG18]
            rw [eG18] at q18
            refine hK.out _ _ (kpB_gr hz g18) (fun _ => ?_)
            clear hK K hHeld ew18
            try simp only [List.getElem_toArray, List.getElem_cons_succ, List.getElem_cons_zero, Act.put, List.setIfInBounds_toArray, List.set_cons_zero, List.set_cons_succ]
            have hHeld := kpB_gr (g := g) hz g18
            refine wpAnyH_ready (rs := [1]) (by kernel_rfl) (by simp) ?_
            refine AllReadyH.cons rfl (fun K hK => ?_) AllReadyH.nil
            try simp only [List.getElem_toArray, List.getElem_cons_succ, List.getElem_cons_zero]
            have kg := KG.out wb18 g18
            go_simp
            clear kg
            refine hK.out _ _ hHeld (fun _ => ?_)
            clear hK K
            try simp only [List.getElem_toArray, List.getElem_cons_succ, List.getElem_cons_zero, Act.put, List.setIfInBounds_toArray, List.set_cons_zero, List.set_cons_succ]
            exact hcut G wb18 ⟨g18, r18, q18⟩
  intro G wL hR
  obtain ⟨gL, rL, qL⟩ := hR
  have hHeld := kpB_gr (g := g) hz gL
  refine wpAnyH_ready (rs := [10]) (by kernel_rfl) (by simp) ?_; refine AllReadyH.cons rfl (fun K hK => ?_) AllReadyH.nil
  rw [if_pos (by rfl)]
  have hne : v.ownBlock = none ∨ v.ownBlock ≠ some R := by
    cases e : v.ownBlock with
    | none => exact .inl rfl
    | some x => exact .inr fun h => by have := (HO.out.lt x e).1; simp only [Option.some.injEq] at h; omega
  have hoL := HO.out.kept gL hne
  refine wp_append_one _ _ 27 (by rfl) base 67 i0 _ 3 40 Try.underlying27 hi hz0 hz1 hz2 rfl (by decide) v acc.length (wrR acc) (by rfl) hoL G [.string a1, .bool a2, .string a3] 67 (by rfl) qL rfl (by intro u hu; simp only [List.mem_cons, List.not_mem_nil, or_false] at hu; rcases hu with rfl | rfl | rfl <;> rfl) (by unfold maxLen; omega) (by omega) (Nat.le_trans hz gL.size) ?_
  intro v2 wA ho2 hg2 hat
  obtain ⟨g2, cap2, hv2⟩ : ∃ g2 cap2, v2 = .slice (some ⟨g2, 0, none⟩) (acc.length + 1) cap2 := by
    rcases ho2.2 with ⟨-, h⟩ | ⟨g2, cap2, cur2, e, -⟩
    · omega
    · exact ⟨g2, cap2, e⟩
  subst hv2
  have rB : ∀ k, v.ownBlock = some k → base ≤ k := fun k hk => (HO.out.lt k hk).1
  have hGL := rd_stays gL HG.out (by omega)
  have hTL := rd_stays gL HT.out (by omega)
  have rA := rL.row hg2 (fun k hk => by have := rB k hk; omega)
  have hGA := (hg2.block g (block_lt hGL) (fun e => by have := rB g e.symm; omega)).trans hGL
  have hTA := (hg2.block T (block_lt hTL) (fun e => by have := rB T e.symm; omega)).trans hTL
  have hBA : w0.grownBy wA (some R) := grown_row (grown_transW HB.out gL) hg2 (fun k hk => by have := rB k hk; omega)
  have hzA : base ≤ wA.heap.size := Nat.le_trans hz (Nat.le_trans gL.size hg2.size)
  have hSA : KpB base R g w wA := fun k hk hr hgk => (hg2.block k (by have := gL.size; omega) (fun e => by have := rB k e.symm; omega)).trans (hHeld k hk hr hgk)
  refine hK.out _ _ hSA (fun _ => ?_)
  clear hK K hHeld gL rL qL hoL hg2 hat hGL hTL KG
  try simp only [List.getElem_toArray, List.getElem_cons_succ, List.getElem_cons_zero, Act.put, List.setIfInBounds_toArray, List.set_cons_zero, List.set_cons_succ]
  have hHeld := hSA
  refine wpAnyH_take (i := 11) (v := ?_) rfl (by kernel_rfl) (by kernel_rfl) (by kernel_rfl) (fun _ _ _ h => h) (Or.inl ⟨by rfl, ?_⟩) hHeld ?_
  rotate_left
  · (intro wz hSw; (try dsimp only at hSw); (try simp only [List.getElem_toArray, List.getElem_cons_succ, List.getElem_cons_zero]); go_simp; try with_reducible rfl)
  try simp only [List.getElem_toArray, List.getElem_cons_succ, List.getElem_cons_zero, Act.put, List.setIfInBounds_toArray, List.set_cons_zero, List.set_cons_succ]
  have kg := block_cells hGA
  have fg := block_free hGA
  refine wpAnyH_ready (rs := [12]) (by kernel_rfl) (by simp) ?_; refine AllReadyH.cons rfl (fun K hK => ?_) AllReadyH.nil; (try simp only [List.getElem_toArray, List.getElem_cons_succ, List.getElem_cons_zero]); go_simp
  have hGB := (cells_setW hGA 13 (Value.slice (some ⟨g2, 0, none⟩) (acc.length + 1) cap2)).trans rfl
  have hTB := (Below.heap_setCell wA ⟨g, 13, none⟩ (Value.slice (some ⟨g2, 0, none⟩) (acc.length + 1) cap2) T (by show T ≠ g; omega)).trans hTA
  have rC : RdW B (wA.setCell ⟨g, 13, none⟩ (Value.slice (some ⟨g2, 0, none⟩) (acc.length + 1) cap2)) R X3 b3 := ⟨rA.r.setFar rg (Value.slice (some ⟨g2, 0, none⟩) (acc.length + 1) cap2), rA.o, rA.l⟩
  have hBB := grown_setFar (j := 13) (v := (Value.slice (some ⟨g2, 0, none⟩) (acc.length + 1) cap2)) hBA ng
  have hoB := ho2.kept (grown_set wA g 13 (Value.slice (some ⟨g2, 0, none⟩) (acc.length + 1) cap2)) (by
    cases e : ((Value.slice (some ⟨g2, 0, none⟩) (acc.length + 1) cap2)).ownBlock with
    | none => exact .inl rfl
    | some x => exact .inr fun h => by have := (ho2.lt x e).1; simp only [Option.some.injEq] at h; omega)
  have hSB : KpB base R g w (wA.setCell ⟨g, 13, none⟩ (Value.slice (some ⟨g2, 0, none⟩) (acc.length + 1) cap2)) := fun k hk hr hgk => (Below.heap_setCell wA ⟨g, 13, none⟩ (Value.slice (some ⟨g2, 0, none⟩) (acc.length + 1) cap2) k hgk).trans (hSA k hk hr hgk)
  refine hK.out _ _ hSB (fun _ => ?_)
  clear hK K hHeld kg fg
  try simp only [List.getElem_toArray, List.getElem_cons_succ, List.getElem_cons_zero, Act.put, List.setIfInBounds_toArray, List.set_cons_zero, List.set_cons_succ]
  refine wpAnyH_done (by kernel_rfl) ?_ _
  go_wp2_with fail
  first | go_end0 | go_ret
  rw [HR.out]
  refine ⟨rfl, rC, ⟨⟨(Value.slice (some ⟨g2, 0, none⟩) (acc.length + 1) cap2), hGB, ?_⟩, hTB, hBB, by simpa [World.setCell] using hzA, hkp.trans hSB⟩⟩
  have e1 : wrR (acc ++ [⟨a1, a2, a3⟩]) = wrR acc ++ [.string a1, .bool a2, .string a3] := by simp [wrR]
  rw [e1, List.length_append]; exact hoB
set_option maxRecDepth 100000 in
set_option maxHeartbeats 8000000 in
theorem cellVe_any (B R T g base : Nat) (w0 wS : World) (x0 x2 x3 x4 x5 x6 x7 x8 x9 x10 x11 : Value) (acc : List VeX) (ys : List Int) (b : Bool) (w : World) (p : LsP w0.heap.size R T g base) (hl : acc.length ≤ 65536) (h : RdW B w R ys b) (hJ : LsJ B R T g base w0 wS (fun v => #[x0, v, x2, x3, x4, x5, x6, x7, x8, x9, x10, x11]) 75 78 4 veR acc w) :
    Calls Try.prog 100 #[.pointer (some ⟨g, 0, none⟩), .pointer (some ⟨T, 0, none⟩)] w fun e w' => e = .returned (.tuple #[]) ∧ RdW B w' R (rdVe ys b).2.1 (rdVe ys b).2.2 ∧ LsJ B R T g base w0 wS (fun v => #[x0, v, x2, x3, x4, x5, x6, x7, x8, x9, x10, x11]) 75 78 4 veR (acc ++ [(rdVe ys b).1]) w' := by
  obtain ⟨ng, rt, rg, gt, gb, tb⟩ := p
  obtain ⟨⟨v, hg, ho⟩, hT, hB, hz, hkp⟩ := hJ
  obtain ⟨⟨⟨a1, a2⟩, X1, b1⟩, hr1⟩ : ∃ r, rdSw ys b = r := ⟨_, rfl⟩
  have C1 : Hid (∀ w', RdW B w' R ys b → Calls Try.prog 58 #[.pointer (some ⟨R, 0, none⟩)] w' fun e w'' => e = .returned (.agg #[.int .i64 a1, .int .i64 a2]) ∧ RdW B w'' R X1 b1 ∧ w'.grownBy w'' (some R)) := fun w' h => by
    have := rmomentE B R ys b w' h; rw [hr1] at this; exact this
  obtain ⟨⟨a3, X2, b2⟩, hr2⟩ : ∃ r, rdFw X1 b1 = r := ⟨_, rfl⟩
  have C2 : Hid (∀ w', RdW B w' R X1 b1 → Calls Try.prog 60 #[.pointer (some ⟨R, 0, none⟩)] w' fun e w'' => e = .returned (.bool a3) ∧ RdW B w'' R X2 b2 ∧ w'.grownBy w'' (some R)) := fun w' h => by
    have := rflagE B R X1 b1 w' h; rw [hr2] at this; exact this
  obtain ⟨⟨a4, X3, b3⟩, hr3⟩ : ∃ r, rdTw X2 b2 = r := ⟨_, rfl⟩
  have C3 : Hid (∀ w', RdW B w' R X2 b2 → Calls Try.prog 63 #[.pointer (some ⟨R, 0, none⟩)] w' fun e w'' => e = .returned (.string a4) ∧ RdW B w'' R X3 b3 ∧ w'.grownBy w'' (some R)) := fun w' h => by
    have := rtext_any B R X2 b2 w' h; rw [hr3] at this; exact this
  have HR : Hid (rdVe ys b = (⟨a1, a2, a3, a4⟩, X3, b3)) := rdMap_is (rd2_is hr1 (rd2_is hr2 hr3))
  have H0 := Lib.hid h; have HT := Lib.hid hT; have HG := Lib.hid hg; have HO := Lib.hid ho; have HB := Lib.hid hB
  obtain ⟨i0, hi, hz0, hz1, hz2⟩ := info_parts Try.infoVe
  clear h hT hg ho hB hr1 hr2 hr3
  go_enter Try.func100, Try.ntmps100
  have kT : ∀ w', KpB base R g w w' → ∀ j, w'.cell? ⟨T, j, none⟩ = #[.pointer (some ⟨R, 0, none⟩)][j]? := fun w' h => block_cells ((h T (by omega) (by omega) (by omega)).trans HT.out)
  have KG : Hid (∀ w', w.grownBy w' (some R) → ∀ j, w'.cell? ⟨g, j, none⟩ = #[x0, v, x2, x3, x4, x5, x6, x7, x8, x9, x10, x11][j]?) := fun w' h => block_cells (rd_stays h HG.out (by omega))
  have g0 : w.grownBy w.drew (some R) := grown_drewW (grown_refl w _)
  have r0 := H0.out.drew
  refine wp_region_held_drew (S := fun w' => KpB base R g w w') (by kernel_rfl) (kpB_gr hz g0) (fun hHeld => ?_)
  obtain ⟨wd, ewd⟩ : ∃ x, w.drew = x := ⟨_, rfl⟩
  rw [ewd] at g0 r0 hHeld ⊢
  clear ewd
  refine wpAnyH_take (i := 0) (v := ?_) rfl (by kernel_rfl) (by kernel_rfl) (by kernel_rfl) (fun _ _ _ h => h) (Or.inl ⟨by rfl, ?_⟩) hHeld ?_
  rotate_left
  · (intro wz hSw; (try dsimp only at hSw); (try simp only [List.getElem_toArray, List.getElem_cons_zero]); go_simp; try with_reducible rfl)
  try simp only [List.getElem_toArray, List.getElem_cons_zero, Act.put, List.setIfInBounds_toArray, List.set_cons_zero, List.set_cons_succ]
  refine wpAnyH_take (i := 2) (v := ?_) rfl (by kernel_rfl) (by kernel_rfl) (by kernel_rfl) (fun _ _ _ h => h) (Or.inl ⟨by rfl, ?_⟩) hHeld ?_
  rotate_left
  · (intro wz hSw; (try dsimp only at hSw); (try simp only [List.getElem_toArray, List.getElem_cons_succ, List.getElem_cons_zero]); go_simp; try with_reducible rfl)
  try simp only [List.getElem_toArray, List.getElem_cons_succ, List.getElem_cons_zero, Act.put, List.setIfInBounds_toArray, List.set_cons_zero, List.set_cons_succ]
  refine wpAnyH_take (i := 4) (v := ?_) rfl (by kernel_rfl) (by kernel_rfl) (by kernel_rfl) (fun _ _ _ h => h) (Or.inl ⟨by rfl, ?_⟩) hHeld ?_
  rotate_left
  · (intro wz hSw; (try dsimp only at hSw); (try simp only [List.getElem_toArray, List.getElem_cons_succ, List.getElem_cons_zero]); go_simp; try with_reducible rfl)
  try simp only [List.getElem_toArray, List.getElem_cons_succ, List.getElem_cons_zero, Act.put, List.setIfInBounds_toArray, List.set_cons_zero, List.set_cons_succ]
  refine wpAnyH_take (i := 6) (v := ?_) rfl (by kernel_rfl) (by kernel_rfl) (by kernel_rfl) (fun _ _ _ h => h) (Or.inl ⟨by rfl, ?_⟩) hHeld ?_
  rotate_left
  · (intro wz hSw; (try dsimp only at hSw); (try simp only [List.getElem_toArray, List.getElem_cons_succ, List.getElem_cons_zero]); go_simp; try with_reducible rfl)
  try simp only [List.getElem_toArray, List.getElem_cons_succ, List.getElem_cons_zero, Act.put, List.setIfInBounds_toArray, List.set_cons_zero, List.set_cons_succ]
  clear hHeld
  apply cutG (R := fun G w' => w.grownBy w' (some R) ∧ RdW B w' R X3 b3 ∧ w'.heap[G]? = some (.cells [.int .i64 a1, .int .i64 a2, .bool a3, .string a4].toArray 78 (0, 0)))
  · intro hcut
    have hHeld := kpB_gr (g := g) hz g0
    refine wpAnyH_ready (rs := [1, 3]) (by kernel_rfl) (by simp) ?_
    refine AllReadyH.cons rfl (fun K hK => ?_) (AllReadyH.cons rfl (fun K hK => ?_) AllReadyH.nil)
    · skip
      try simp only [List.getElem_toArray, List.getElem_cons_succ, List.getElem_cons_zero]
      have kg := KG.out wd g0
      go_simp
      clear kg
      refine hK.out _ _ hHeld (fun _ => ?_)
      clear hK K
      try simp only [List.getElem_toArray, List.getElem_cons_succ, List.getElem_cons_zero, Act.put, List.setIfInBounds_toArray, List.set_cons_zero, List.set_cons_succ]
      refine wpAnyH_ready (rs := [3]) (by kernel_rfl) (by simp) ?_
      refine AllReadyH.cons rfl (fun K hK => ?_) AllReadyH.nil
      try simp only [List.getElem_toArray, List.getElem_cons_succ, List.getElem_cons_zero]
      go_simp
      refine (C1.out _ r0).mono ?_; rintro r w2 ⟨rfl, r2, k2⟩
      have g2 := grown_transW g0 k2
      refine hK.out _ _ (kpB_gr hz g2) (fun _ => ?_)
      clear hK K hHeld
      try simp only [List.getElem_toArray, List.getElem_cons_succ, List.getElem_cons_zero, Act.put, List.setIfInBounds_toArray, List.set_cons_zero, List.set_cons_succ]
      have hHeld := kpB_gr (g := g) hz g2
      refine wpAnyH_ready (rs := [5]) (by kernel_rfl) (by simp) ?_
      refine AllReadyH.cons rfl (fun K hK => ?_) AllReadyH.nil
      try simp only [List.getElem_toArray, List.getElem_cons_succ, List.getElem_cons_zero]
      go_simp
      refine (C2.out _ r2).mono ?_; rintro r w3 ⟨rfl, r3, k3⟩
      have g3 := grown_transW g2 k3
      refine hK.out _ _ (kpB_gr hz g3) (fun _ => ?_)
      clear hK K hHeld
      try simp only [List.getElem_toArray, List.getElem_cons_succ, List.getElem_cons_zero, Act.put, List.setIfInBounds_toArray, List.set_cons_zero, List.set_cons_succ]
      have hHeld := kpB_gr (g := g) hz g3
      refine wpAnyH_ready (rs := [7]) (by kernel_rfl) (by simp) ?_
      refine AllReadyH.cons rfl (fun K hK => ?_) AllReadyH.nil
      try simp only [List.getElem_toArray, List.getElem_cons_succ, List.getElem_cons_zero]
      go_simp
      refine (C3.out _ r3).mono ?_; rintro r w4 ⟨rfl, r4, k4⟩
      have g4 := grown_transW g3 k4
      refine hK.out _ _ (kpB_gr hz g4) (fun _ => ?_)
      clear hK K hHeld
      try simp only [List.getElem_toArray, List.getElem_cons_succ, List.getElem_cons_zero, Act.put, List.setIfInBounds_toArray, List.set_cons_zero, List.set_cons_succ]
      have hHeld := kpB_gr (g := g) hz g4
      refine wpAnyH_take (i := 8) (v := ?_) rfl (by kernel_rfl) (by kernel_rfl) (by kernel_rfl) (fun _ _ _ h => h) (Or.inl ⟨by rfl, ?_⟩) hHeld ?_
      rotate_left
      · (intro wz hSw; (try dsimp only at hSw); (try simp only [List.getElem_toArray, List.getElem_cons_succ, List.getElem_cons_zero]); go_simp; try with_reducible rfl)
      try simp only [List.getElem_toArray, List.getElem_cons_succ, List.getElem_cons_zero, Act.put, List.setIfInBounds_toArray, List.set_cons_zero, List.set_cons_succ]
      refine wpAnyH_ready (rs := [9]) (by kernel_rfl) (by simp) ?_
      refine AllReadyH.cons rfl (fun K hK => ?_) AllReadyH.nil
      try simp only [List.getElem_toArray, List.getElem_cons_succ, List.getElem_cons_zero]
      go_simp
      obtain ⟨wb5, ew5⟩ : ∃ x : World, w4.alloc (.cells #[.int .i64 a1, .int .i64 a2, .bool a3, .string a4] 78) = x := ⟨_, rfl⟩
      have bl5 : Below w4.heap.size w4 wb5 := by rw [← ew5]; exact (Below.refl _ _).alloc (Nat.le_refl _) _
      have q5 : wb5.heap[w4.heap.size]? = some (.cells [.int .i64 a1, .int .i64 a2, .bool a3, .string a4].toArray 78 (0, 0)) := by rw [← ew5]; exact heap_last w4 _
      have g5 := grown_transW g4 (grown_below bl5 (some R))
      have r5 := r4.keep bl5 (Nat.le_refl _)
      rw [ew5]
      obtain ⟨G, eG5⟩ : ∃ n, w4.heap.size = n := ⟨_, rfl⟩
      try rw [eG5]
      rw [eG5] at q5
      refine hK.out _ _ (kpB_gr hz g5) (fun _ => ?_)
      clear hK K hHeld ew5
      try simp only [List.getElem_toArray, List.getElem_cons_succ, List.getElem_cons_zero, Act.put, List.setIfInBounds_toArray, List.set_cons_zero, List.set_cons_succ]
      have hHeld := kpB_gr (g := g) hz g5
      exact hcut G wb5 ⟨g5, r5, q5⟩
    · skip
      try simp only [List.getElem_toArray, List.getElem_cons_succ, List.getElem_cons_zero]
      go_simp
      refine (C1.out _ r0).mono ?_; rintro r w6 ⟨rfl, r6, k6⟩
      have g6 := grown_transW g0 k6
      refine hK.out _ _ (kpB_gr hz g6) (fun _ => ?_)
      clear hK K hHeld
      try simp only [List.getElem_toArray, List.getElem_cons_succ, List.getElem_cons_zero, Act.put, List.setIfInBounds_toArray, List.set_cons_zero, List.set_cons_succ]
      have hHeld := kpB_gr (g := g) hz g6
      refine wpAnyH_ready (rs := [1, 5]) (by kernel_rfl) (by simp) ?_
      refine AllReadyH.cons rfl (fun K hK => ?_) (AllReadyH.cons rfl (fun K hK => ?_) AllReadyH.nil)
      · skip
        try simp only [List.getElem_toArray, List.getElem_cons_succ, List.getElem_cons_zero]
        have kg := KG.out w6 g6
        go_simp
        clear kg
        refine hK.out _ _ hHeld (fun _ => ?_)
        clear hK K
        try simp only [List.getElem_toArray, List.getElem_cons_succ, List.getElem_cons_zero, Act.put, List.setIfInBounds_toArray, List.set_cons_zero, List.set_cons_succ]
        refine wpAnyH_ready (rs := [5]) (by kernel_rfl) (by simp) ?_
        refine AllReadyH.cons rfl (fun K hK => ?_) AllReadyH.nil
        try simp only [List.getElem_toArray, List.getElem_cons_succ, List.getElem_cons_zero]
        go_simp
        refine (C2.out _ r6).mono ?_; rintro r w8 ⟨rfl, r8, k8⟩
        have g8 := grown_transW g6 k8
        refine hK.out _ _ (kpB_gr hz g8) (fun _ => ?_)
        clear hK K hHeld
        try simp only [List.getElem_toArray, List.getElem_cons_succ, List.getElem_cons_zero, Act.put, List.setIfInBounds_toArray, List.set_cons_zero, List.set_cons_succ]
        have hHeld := kpB_gr (g := g) hz g8
        refine wpAnyH_ready (rs := [7]) (by kernel_rfl) (by simp) ?_
        refine AllReadyH.cons rfl (fun K hK => ?_) AllReadyH.nil
        try simp only [List.getElem_toArray, List.getElem_cons_succ, List.getElem_cons_zero]
        go_simp
        refine (C3.out _ r8).mono ?_; rintro r w9 ⟨rfl, r9, k9⟩
        have g9 := grown_transW g8 k9
        refine hK.out _ _ (kpB_gr hz g9) (fun _ => ?_)
        clear hK K hHeld
        try simp only [List.getElem_toArray, List.getElem_cons_succ, List.getElem_cons_zero, Act.put, List.setIfInBounds_toArray, List.set_cons_zero, List.set_cons_succ]
        have hHeld := kpB_gr (g := g) hz g9
        refine wpAnyH_take (i := 8) (v := ?_) rfl (by kernel_rfl) (by kernel_rfl) (by kernel_rfl) (fun _ _ _ h => h) (Or.inl ⟨by rfl, ?_⟩) hHeld ?_
        rotate_left
        · (intro wz hSw; (try dsimp only at hSw); (try simp only [List.getElem_toArray, List.getElem_cons_succ, List.getElem_cons_zero]); go_simp; try with_reducible rfl)
        try simp only [List.getElem_toArray, List.getElem_cons_succ, List.getElem_cons_zero, Act.put, List.setIfInBounds_toArray, List.set_cons_zero, List.set_cons_succ]
        refine wpAnyH_ready (rs := [9]) (by kernel_rfl) (by simp) ?_
        refine AllReadyH.cons rfl (fun K hK => ?_) AllReadyH.nil
        try simp only [List.getElem_toArray, List.getElem_cons_succ, List.getElem_cons_zero]
        go_simp
        obtain ⟨wb10, ew10⟩ : ∃ x : World, w9.alloc (.cells #[.int .i64 a1, .int .i64 a2, .bool a3, .string a4] 78) = x := ⟨_, rfl⟩
        have bl10 : Below w9.heap.size w9 wb10 := by rw [← ew10]; exact (Below.refl _ _).alloc (Nat.le_refl _) _
        have q10 : wb10.heap[w9.heap.size]? = some (.cells [.int .i64 a1, .int .i64 a2, .bool a3, .string a4].toArray 78 (0, 0)) := by rw [← ew10]; exact heap_last w9 _
        have g10 := grown_transW g9 (grown_below bl10 (some R))
        have r10 := r9.keep bl10 (Nat.le_refl _)
        rw [ew10]
        obtain ⟨G, eG10⟩ : ∃ n, w9.heap.size = n := ⟨_, rfl⟩
        try rw [eG10]
        rw [eG10] at q10
        refine hK.out _ _ (kpB_gr hz g10) (fun _ => ?_)
        clear hK K hHeld ew10
        try simp only [List.getElem_toArray, List.getElem_cons_succ, List.getElem_cons_zero, Act.put, List.setIfInBounds_toArray, List.set_cons_zero, List.set_cons_succ]
        have hHeld := kpB_gr (g := g) hz g10
        exact hcut G wb10 ⟨g10, r10, q10⟩
      · skip
        try simp only [List.getElem_toArray, List.getElem_cons_succ, List.getElem_cons_zero]
        go_simp
        refine (C2.out _ r6).mono ?_; rintro r w11 ⟨rfl, r11, k11⟩
        have g11 := grown_transW g6 k11
        refine hK.out _ _ (kpB_gr hz g11) (fun _ => ?_)
        clear hK K hHeld
        try simp only [List.getElem_toArray, List.getElem_cons_succ, List.getElem_cons_zero, Act.put, List.setIfInBounds_toArray, List.set_cons_zero, List.set_cons_succ]
        have hHeld := kpB_gr (g := g) hz g11
        refine wpAnyH_ready (rs := [1, 7]) (by kernel_rfl) (by simp) ?_
        refine AllReadyH.cons rfl (fun K hK => ?_) (AllReadyH.cons rfl (fun K hK => ?_) AllReadyH.nil)
        · skip
          try simp only [List.getElem_toArray, List.getElem_cons_succ, List.getElem_cons_zero]
          have kg := KG.out w11 g11
          go_simp
          clear kg
          refine hK.out _ _ hHeld (fun _ => ?_)
          clear hK K
          try simp only [List.getElem_toArray, List.getElem_cons_succ, List.getElem_cons_zero, Act.put, List.setIfInBounds_toArray, List.set_cons_zero, List.set_cons_succ]
          refine wpAnyH_ready (rs := [7]) (by kernel_rfl) (by simp) ?_
          refine AllReadyH.cons rfl (fun K hK => ?_) AllReadyH.nil
          try simp only [List.getElem_toArray, List.getElem_cons_succ, List.getElem_cons_zero]
          go_simp
          refine (C3.out _ r11).mono ?_; rintro r w13 ⟨rfl, r13, k13⟩
          have g13 := grown_transW g11 k13
          refine hK.out _ _ (kpB_gr hz g13) (fun _ => ?_)
          clear hK K hHeld
          try simp only [List.getElem_toArray, List.getElem_cons_succ, List.getElem_cons_zero, Act.put, List.setIfInBounds_toArray, List.set_cons_zero, List.set_cons_succ]
          have hHeld := kpB_gr (g := g) hz g13
          refine wpAnyH_take (i := 8) (v := ?_) rfl (by kernel_rfl) (by kernel_rfl) (by kernel_rfl) (fun _ _ _ h => h) (Or.inl ⟨by rfl, ?_⟩) hHeld ?_
          rotate_left
          · (intro wz hSw; (try dsimp only at hSw); (try simp only [List.getElem_toArray, List.getElem_cons_succ, List.getElem_cons_zero]); go_simp; try with_reducible rfl)
          try simp only [List.getElem_toArray, List.getElem_cons_succ, List.getElem_cons_zero, Act.put, List.setIfInBounds_toArray, List.set_cons_zero, List.set_cons_succ]
          refine wpAnyH_ready (rs := [9]) (by kernel_rfl) (by simp) ?_
          refine AllReadyH.cons rfl (fun K hK => ?_) AllReadyH.nil
          try simp only [List.getElem_toArray, List.getElem_cons_succ, List.getElem_cons_zero]
          go_simp
          obtain ⟨wb14, ew14⟩ : ∃ x : World, w13.alloc (.cells #[.int .i64 a1, .int .i64 a2, .bool a3, .string a4] 78) = x := ⟨_, rfl⟩
          have bl14 : Below w13.heap.size w13 wb14 := by rw [← ew14]; exact (Below.refl _ _).alloc (Nat.le_refl _) _
          have q14 : wb14.heap[w13.heap.size]? = some (.cells [.int .i64 a1, .int .i64 a2, .bool a3, .string a4].toArray 78 (0, 0)) := by rw [← ew14]; exact heap_last w13 _
          have g14 := grown_transW g13 (grown_below bl14 (some R))
          have r14 := r13.keep bl14 (Nat.le_refl _)
          rw [ew14]
          obtain ⟨G, eG14⟩ : ∃ n, w13.heap.size = n := ⟨_, rfl⟩
          try rw [eG14]
          rw [eG14] at q14
          refine hK.out _ _ (kpB_gr hz g14) (fun _ => ?_)
          clear hK K hHeld ew14
          try simp only [List.getElem_toArray, List.getElem_cons_succ, List.getElem_cons_zero, Act.put, List.setIfInBounds_toArray, List.set_cons_zero, List.set_cons_succ]
          have hHeld := kpB_gr (g := g) hz g14
          exact hcut G wb14 ⟨g14, r14, q14⟩
        · skip
          try simp only [List.getElem_toArray, List.getElem_cons_succ, List.getElem_cons_zero]
          go_simp
          refine (C3.out _ r11).mono ?_; rintro r w15 ⟨rfl, r15, k15⟩
          have g15 := grown_transW g11 k15
          refine hK.out _ _ (kpB_gr hz g15) (fun _ => ?_)
          clear hK K hHeld
          try simp only [List.getElem_toArray, List.getElem_cons_succ, List.getElem_cons_zero, Act.put, List.setIfInBounds_toArray, List.set_cons_zero, List.set_cons_succ]
          have hHeld := kpB_gr (g := g) hz g15
          refine wpAnyH_take (i := 8) (v := ?_) rfl (by kernel_rfl) (by kernel_rfl) (by kernel_rfl) (fun _ _ _ h => h) (Or.inl ⟨by rfl, ?_⟩) hHeld ?_
          rotate_left
          · (intro wz hSw; (try dsimp only at hSw); (try simp only [List.getElem_toArray, List.getElem_cons_succ, List.getElem_cons_zero]); go_simp; try with_reducible rfl)
          try simp only [List.getElem_toArray, List.getElem_cons_succ, List.getElem_cons_zero, Act.put, List.setIfInBounds_toArray, List.set_cons_zero, List.set_cons_succ]
          refine wpAnyH_ready (rs := [1, 9]) (by kernel_rfl) (by simp) ?_
          refine AllReadyH.cons rfl (fun K hK => ?_) (AllReadyH.cons rfl (fun K hK => ?_) AllReadyH.nil)
          · skip
            try simp only [List.getElem_toArray, List.getElem_cons_succ, List.getElem_cons_zero]
            have kg := KG.out w15 g15
            go_simp
            clear kg
            refine hK.out _ _ hHeld (fun _ => ?_)
            clear hK K
            try simp only [List.getElem_toArray, List.getElem_cons_succ, List.getElem_cons_zero, Act.put, List.setIfInBounds_toArray, List.set_cons_zero, List.set_cons_succ]
            refine wpAnyH_ready (rs := [9]) (by kernel_rfl) (by simp) ?_
            refine AllReadyH.cons rfl (fun K hK => ?_) AllReadyH.nil
            try simp only [List.getElem_toArray, List.getElem_cons_succ, List.getElem_cons_zero]
            go_simp
            obtain ⟨wb17, ew17⟩ : ∃ x : World, w15.alloc (.cells #[.int .i64 a1, .int .i64 a2, .bool a3, .string a4] 78) = x := ⟨_, rfl⟩
            have bl17 : Below w15.heap.size w15 wb17 := by rw [← ew17]; exact (Below.refl _ _).alloc (Nat.le_refl _) _
            have q17 : wb17.heap[w15.heap.size]? = some (.cells [.int .i64 a1, .int .i64 a2, .bool a3, .string a4].toArray 78 (0, 0)) := by rw [← ew17]; exact heap_last w15 _
            have g17 := grown_transW g15 (grown_below bl17 (some R))
            have r17 := r15.keep bl17 (Nat.le_refl _)
            rw [ew17]
            obtain ⟨G, eG17⟩ : ∃ n, w15.heap.size = n := ⟨_, rfl⟩
            try rw [eG17]
            rw [eG17] at q17
            refine hK.out _ _ (kpB_gr hz g17) (fun _ => ?_)
            clear hK K hHeld ew17
            try simp only [List.getElem_toArray, List.getElem_cons_succ, List.getElem_cons_zero, Act.put, List.setIfInBounds_toArray, List.set_cons_zero, List.set_cons_succ]
            have hHeld := kpB_gr (g := g) hz g17
            exact hcut G wb17 ⟨g17, r17, q17⟩
          · skip
            try simp only [List.getElem_toArray, List.getElem_cons_succ, List.getElem_cons_zero]
            go_simp
            obtain ⟨wb18, ew18⟩ : ∃ x : World, w15.alloc (.cells #[.int .i64 a1, .int .i64 a2, .bool a3, .string a4] 78) = x := ⟨_, rfl⟩
            have bl18 : Below w15.heap.size w15 wb18 := by rw [← ew18]; exact (Below.refl _ _).alloc (Nat.le_refl _) _
            have q18 : wb18.heap[w15.heap.size]? = some (.cells [.int .i64 a1, .int .i64 a2, .bool a3, .string a4].toArray 78 (0, 0)) := by rw [← ew18]; exact heap_last w15 _
            have g18 := grown_transW g15 (grown_below bl18 (some R))
            have r18 := r15.keep bl18 (Nat.le_refl _)
            rw [ew18]
            obtain ⟨G, eG18⟩ : ∃ n, w15.heap.size = n := ⟨_, rfl⟩
            try rw [eG18]
            rw [eG18] at q18
            refine hK.out _ _ (kpB_gr hz g18) (fun _ => ?_)
            clear hK K hHeld ew18
            try simp only [List.getElem_toArray, List.getElem_cons_succ, List.getElem_cons_zero, Act.put, List.setIfInBounds_toArray, List.set_cons_zero, List.set_cons_succ]
            have hHeld := kpB_gr (g := g) hz g18
            refine wpAnyH_ready (rs := [1]) (by kernel_rfl) (by simp) ?_
            refine AllReadyH.cons rfl (fun K hK => ?_) AllReadyH.nil
            try simp only [List.getElem_toArray, List.getElem_cons_succ, List.getElem_cons_zero]
            have kg := KG.out wb18 g18
            go_simp
            clear kg
            refine hK.out _ _ hHeld (fun _ => ?_)
            clear hK K
            try simp only [List.getElem_toArray, List.getElem_cons_succ, List.getElem_cons_zero, Act.put, List.setIfInBounds_toArray, List.set_cons_zero, List.set_cons_succ]
            exact hcut G wb18 ⟨g18, r18, q18⟩
  intro G wL hR
  obtain ⟨gL, rL, qL⟩ := hR
  have hHeld := kpB_gr (g := g) hz gL
  refine wpAnyH_ready (rs := [10]) (by kernel_rfl) (by simp) ?_; refine AllReadyH.cons rfl (fun K hK => ?_) AllReadyH.nil
  rw [if_pos (by rfl)]
  have hne : v.ownBlock = none ∨ v.ownBlock ≠ some R := by
    cases e : v.ownBlock with
    | none => exact .inl rfl
    | some x => exact .inr fun h => by have := (HO.out.lt x e).1; simp only [Option.some.injEq] at h; omega
  have hoL := HO.out.kept gL hne
  refine wp_append_one _ _ 71 (by rfl) base 78 i0 _ 4 40 Try.underlying71 hi hz0 hz1 hz2 rfl (by decide) v acc.length (veR acc) (by rfl) hoL G [.int .i64 a1, .int .i64 a2, .bool a3, .string a4] 78 (by rfl) qL rfl (by intro u hu; simp only [List.mem_cons, List.not_mem_nil, or_false] at hu; rcases hu with rfl | rfl | rfl | rfl <;> rfl) (by unfold maxLen; omega) (by omega) (Nat.le_trans hz gL.size) ?_
  intro v2 wA ho2 hg2 hat
  obtain ⟨g2, cap2, hv2⟩ : ∃ g2 cap2, v2 = .slice (some ⟨g2, 0, none⟩) (acc.length + 1) cap2 := by
    rcases ho2.2 with ⟨-, h⟩ | ⟨g2, cap2, cur2, e, -⟩
    · omega
    · exact ⟨g2, cap2, e⟩
  subst hv2
  have rB : ∀ k, v.ownBlock = some k → base ≤ k := fun k hk => (HO.out.lt k hk).1
  have hGL := rd_stays gL HG.out (by omega)
  have hTL := rd_stays gL HT.out (by omega)
  have rA := rL.row hg2 (fun k hk => by have := rB k hk; omega)
  have hGA := (hg2.block g (block_lt hGL) (fun e => by have := rB g e.symm; omega)).trans hGL
  have hTA := (hg2.block T (block_lt hTL) (fun e => by have := rB T e.symm; omega)).trans hTL
  have hBA : w0.grownBy wA (some R) := grown_row (grown_transW HB.out gL) hg2 (fun k hk => by have := rB k hk; omega)
  have hzA : base ≤ wA.heap.size := Nat.le_trans hz (Nat.le_trans gL.size hg2.size)
  have hSA : KpB base R g w wA := fun k hk hr hgk => (hg2.block k (by have := gL.size; omega) (fun e => by have := rB k e.symm; omega)).trans (hHeld k hk hr hgk)
  refine hK.out _ _ hSA (fun _ => ?_)
  clear hK K hHeld gL rL qL hoL hg2 hat hGL hTL KG
  try simp only [List.getElem_toArray, List.getElem_cons_succ, List.getElem_cons_zero, Act.put, List.setIfInBounds_toArray, List.set_cons_zero, List.set_cons_succ]
  have hHeld := hSA
  refine wpAnyH_take (i := 11) (v := ?_) rfl (by kernel_rfl) (by kernel_rfl) (by kernel_rfl) (fun _ _ _ h => h) (Or.inl ⟨by rfl, ?_⟩) hHeld ?_
  rotate_left
  · (intro wz hSw; (try dsimp only at hSw); (try simp only [List.getElem_toArray, List.getElem_cons_succ, List.getElem_cons_zero]); go_simp; try with_reducible rfl)
  try simp only [List.getElem_toArray, List.getElem_cons_succ, List.getElem_cons_zero, Act.put, List.setIfInBounds_toArray, List.set_cons_zero, List.set_cons_succ]
  have kg := block_cells hGA
  have fg := block_free hGA
  refine wpAnyH_ready (rs := [12]) (by kernel_rfl) (by simp) ?_; refine AllReadyH.cons rfl (fun K hK => ?_) AllReadyH.nil; (try simp only [List.getElem_toArray, List.getElem_cons_succ, List.getElem_cons_zero]); go_simp
  have hGB := (cells_setW hGA 1 (Value.slice (some ⟨g2, 0, none⟩) (acc.length + 1) cap2)).trans rfl
  have hTB := (Below.heap_setCell wA ⟨g, 1, none⟩ (Value.slice (some ⟨g2, 0, none⟩) (acc.length + 1) cap2) T (by show T ≠ g; omega)).trans hTA
  have rC : RdW B (wA.setCell ⟨g, 1, none⟩ (Value.slice (some ⟨g2, 0, none⟩) (acc.length + 1) cap2)) R X3 b3 := ⟨rA.r.setFar rg (Value.slice (some ⟨g2, 0, none⟩) (acc.length + 1) cap2), rA.o, rA.l⟩
  have hBB := grown_setFar (j := 1) (v := (Value.slice (some ⟨g2, 0, none⟩) (acc.length + 1) cap2)) hBA ng
  have hoB := ho2.kept (grown_set wA g 1 (Value.slice (some ⟨g2, 0, none⟩) (acc.length + 1) cap2)) (by
    cases e : ((Value.slice (some ⟨g2, 0, none⟩) (acc.length + 1) cap2)).ownBlock with
    | none => exact .inl rfl
    | some x => exact .inr fun h => by have := (ho2.lt x e).1; simp only [Option.some.injEq] at h; omega)
  have hSB : KpB base R g w (wA.setCell ⟨g, 1, none⟩ (Value.slice (some ⟨g2, 0, none⟩) (acc.length + 1) cap2)) := fun k hk hr hgk => (Below.heap_setCell wA ⟨g, 1, none⟩ (Value.slice (some ⟨g2, 0, none⟩) (acc.length + 1) cap2) k hgk).trans (hSA k hk hr hgk)
  refine hK.out _ _ hSB (fun _ => ?_)
  clear hK K hHeld kg fg
  try simp only [List.getElem_toArray, List.getElem_cons_succ, List.getElem_cons_zero, Act.put, List.setIfInBounds_toArray, List.set_cons_zero, List.set_cons_succ]
  refine wpAnyH_done (by kernel_rfl) ?_ _
  go_wp2_with fail
  first | go_end0 | go_ret
  rw [HR.out]
  refine ⟨rfl, rC, ⟨⟨(Value.slice (some ⟨g2, 0, none⟩) (acc.length + 1) cap2), hGB, ?_⟩, hTB, hBB, by simpa [World.setCell] using hzA, hkp.trans hSB⟩⟩
  have e1 : veR (acc ++ [⟨a1, a2, a3, a4⟩]) = veR acc ++ [.int .i64 a1, .int .i64 a2, .bool a3, .string a4] := by simp [veR]
  rw [e1, List.length_append]; exact hoB
set_option maxRecDepth 100000 in
set_option maxHeartbeats 8000000 in
theorem outsOu_any (B R T g base : Nat) (w0 wS : World) (acc : List OuX) (ys : List Int) (b : Bool) (w : World) (p : LsP w0.heap.size R T g base) (hl : acc.length ≤ 65536) (h : RdW B w R ys b) (hJ : LsJ B R T g base w0 wS (fun v => #[v]) 31 83 7 ouR acc w) :
    Calls Try.prog 101 #[.pointer (some ⟨g, 0, none⟩), .pointer (some ⟨T, 0, none⟩)] w fun e w' => e = .returned (.tuple #[]) ∧ RdW B w' R (rdOu ys b).2.1 (rdOu ys b).2.2 ∧ LsJ B R T g base w0 wS (fun v => #[v]) 31 83 7 ouR (acc ++ [(rdOu ys b).1]) w' := by
  obtain ⟨ng, rt, rg, gt, gb, tb⟩ := p
  obtain ⟨⟨v, hg, ho⟩, hT, hB, hz, hkp⟩ := hJ
  obtain ⟨⟨⟨a1, a2, a3, a4⟩, X1, b1⟩, hr1⟩ : ∃ r, rdYw ys b = r := ⟨_, rfl⟩
  have C1 : Hid (∀ w', RdW B w' R ys b → Calls Try.prog 57 #[.pointer (some ⟨R, 0, none⟩)] w' fun e w'' => e = .returned (.agg #[.int .i64 a1, .int .i64 a2, .int .i64 a3, .int .i64 a4]) ∧ RdW B w'' R X1 b1 ∧ w'.grownBy w'' (some R)) := fun w' h => by
    have := rtryE B R ys b w' h; rw [hr1] at this; exact this
  obtain ⟨⟨⟨a5, a6⟩, X2, b2⟩, hr2⟩ : ∃ r, rdSw X1 b1 = r := ⟨_, rfl⟩
  have C2 : Hid (∀ w', RdW B w' R X1 b1 → Calls Try.prog 58 #[.pointer (some ⟨R, 0, none⟩)] w' fun e w'' => e = .returned (.agg #[.int .i64 a5, .int .i64 a6]) ∧ RdW B w'' R X2 b2 ∧ w'.grownBy w'' (some R)) := fun w' h => by
    have := rmomentE B R X1 b1 w' h; rw [hr2] at this; exact this
  obtain ⟨⟨a7, X3, b3⟩, hr3⟩ : ∃ r, rdFw X2 b2 = r := ⟨_, rfl⟩
  have C3 : Hid (∀ w', RdW B w' R X2 b2 → Calls Try.prog 60 #[.pointer (some ⟨R, 0, none⟩)] w' fun e w'' => e = .returned (.bool a7) ∧ RdW B w'' R X3 b3 ∧ w'.grownBy w'' (some R)) := fun w' h => by
    have := rflagE B R X2 b2 w' h; rw [hr3] at this; exact this
  have HR : Hid (rdOu ys b = (⟨a1, a2, a3, a4, a5, a6, a7⟩, X3, b3)) := rdMap_is (rd2_is hr1 (rd2_is hr2 hr3))
  have H0 := Lib.hid h; have HT := Lib.hid hT; have HG := Lib.hid hg; have HO := Lib.hid ho; have HB := Lib.hid hB
  obtain ⟨i0, hi, hz0, hz1, hz2⟩ := info_parts Try.infoOu
  clear h hT hg ho hB hr1 hr2 hr3
  go_enter Try.func101, Try.ntmps101
  have kT : ∀ w', KpB base R g w w' → ∀ j, w'.cell? ⟨T, j, none⟩ = #[.pointer (some ⟨R, 0, none⟩)][j]? := fun w' h => block_cells ((h T (by omega) (by omega) (by omega)).trans HT.out)
  have KG : Hid (∀ w', w.grownBy w' (some R) → ∀ j, w'.cell? ⟨g, j, none⟩ = #[v][j]?) := fun w' h => block_cells (rd_stays h HG.out (by omega))
  have g0 : w.grownBy w.drew (some R) := grown_drewW (grown_refl w _)
  have r0 := H0.out.drew
  refine wp_region_held_drew (S := fun w' => KpB base R g w w') (by kernel_rfl) (kpB_gr hz g0) (fun hHeld => ?_)
  obtain ⟨wd, ewd⟩ : ∃ x, w.drew = x := ⟨_, rfl⟩
  rw [ewd] at g0 r0 hHeld ⊢
  clear ewd
  refine wpAnyH_take (i := 1) (v := ?_) rfl (by kernel_rfl) (by kernel_rfl) (by kernel_rfl) (fun _ _ _ h => h) (Or.inl ⟨by rfl, ?_⟩) hHeld ?_
  rotate_left
  · (intro wz hSw; (try dsimp only at hSw); (try simp only [List.getElem_toArray, List.getElem_cons_succ, List.getElem_cons_zero]); go_simp; try with_reducible rfl)
  try simp only [List.getElem_toArray, List.getElem_cons_succ, List.getElem_cons_zero, Act.put, List.setIfInBounds_toArray, List.set_cons_zero, List.set_cons_succ]
  refine wpAnyH_take (i := 3) (v := ?_) rfl (by kernel_rfl) (by kernel_rfl) (by kernel_rfl) (fun _ _ _ h => h) (Or.inl ⟨by rfl, ?_⟩) hHeld ?_
  rotate_left
  · (intro wz hSw; (try dsimp only at hSw); (try simp only [List.getElem_toArray, List.getElem_cons_succ, List.getElem_cons_zero]); go_simp; try with_reducible rfl)
  try simp only [List.getElem_toArray, List.getElem_cons_succ, List.getElem_cons_zero, Act.put, List.setIfInBounds_toArray, List.set_cons_zero, List.set_cons_succ]
  refine wpAnyH_take (i := 5) (v := ?_) rfl (by kernel_rfl) (by kernel_rfl) (by kernel_rfl) (fun _ _ _ h => h) (Or.inl ⟨by rfl, ?_⟩) hHeld ?_
  rotate_left
  · (intro wz hSw; (try dsimp only at hSw); (try simp only [List.getElem_toArray, List.getElem_cons_succ, List.getElem_cons_zero]); go_simp; try with_reducible rfl)
  try simp only [List.getElem_toArray, List.getElem_cons_succ, List.getElem_cons_zero, Act.put, List.setIfInBounds_toArray, List.set_cons_zero, List.set_cons_succ]
  clear hHeld
  apply cutG (R := fun G w' => w.grownBy w' (some R) ∧ RdW B w' R X3 b3 ∧ w'.heap[G]? = some (.cells [.int .i64 a1, .int .i64 a2, .int .i64 a3, .int .i64 a4, .int .i64 a5, .int .i64 a6, .bool a7].toArray 83 (0, 0)))
  · intro hcut
    have hHeld := kpB_gr (g := g) hz g0
    refine wpAnyH_ready (rs := [0, 2]) (by kernel_rfl) (by simp) ?_
    refine AllReadyH.cons rfl (fun K hK => ?_) (AllReadyH.cons rfl (fun K hK => ?_) AllReadyH.nil)
    · skip
      try simp only [List.getElem_toArray, List.getElem_cons_zero]
      have kg := KG.out wd g0
      go_simp
      clear kg
      refine hK.out _ _ hHeld (fun _ => ?_)
      clear hK K
      try simp only [List.getElem_toArray, List.getElem_cons_succ, List.getElem_cons_zero, Act.put, List.setIfInBounds_toArray, List.set_cons_zero, List.set_cons_succ]
      refine wpAnyH_ready (rs := [2]) (by kernel_rfl) (by simp) ?_
      refine AllReadyH.cons rfl (fun K hK => ?_) AllReadyH.nil
      try simp only [List.getElem_toArray, List.getElem_cons_succ, List.getElem_cons_zero]
      go_simp
      refine (C1.out _ r0).mono ?_; rintro r w2 ⟨rfl, r2, k2⟩
      have g2 := grown_transW g0 k2
      refine hK.out _ _ (kpB_gr hz g2) (fun _ => ?_)
      clear hK K hHeld
      try simp only [List.getElem_toArray, List.getElem_cons_succ, List.getElem_cons_zero, Act.put, List.setIfInBounds_toArray, List.set_cons_zero, List.set_cons_succ]
      have hHeld := kpB_gr (g := g) hz g2
      refine wpAnyH_ready (rs := [4]) (by kernel_rfl) (by simp) ?_
      refine AllReadyH.cons rfl (fun K hK => ?_) AllReadyH.nil
      try simp only [List.getElem_toArray, List.getElem_cons_succ, List.getElem_cons_zero]
      go_simp
      refine (C2.out _ r2).mono ?_; rintro r w3 ⟨rfl, r3, k3⟩
      have g3 := grown_transW g2 k3
      refine hK.out _ _ (kpB_gr hz g3) (fun _ => ?_)
      clear hK K hHeld
      try simp only [List.getElem_toArray, List.getElem_cons_succ, List.getElem_cons_zero, Act.put, List.setIfInBounds_toArray, List.set_cons_zero, List.set_cons_succ]
      have hHeld := kpB_gr (g := g) hz g3
      refine wpAnyH_ready (rs := [6]) (by kernel_rfl) (by simp) ?_
      refine AllReadyH.cons rfl (fun K hK => ?_) AllReadyH.nil
      try simp only [List.getElem_toArray, List.getElem_cons_succ, List.getElem_cons_zero]
      go_simp
      refine (C3.out _ r3).mono ?_; rintro r w4 ⟨rfl, r4, k4⟩
      have g4 := grown_transW g3 k4
      refine hK.out _ _ (kpB_gr hz g4) (fun _ => ?_)
      clear hK K hHeld
      try simp only [List.getElem_toArray, List.getElem_cons_succ, List.getElem_cons_zero, Act.put, List.setIfInBounds_toArray, List.set_cons_zero, List.set_cons_succ]
      have hHeld := kpB_gr (g := g) hz g4
      refine wpAnyH_take (i := 7) (v := ?_) rfl (by kernel_rfl) (by kernel_rfl) (by kernel_rfl) (fun _ _ _ h => h) (Or.inl ⟨by rfl, ?_⟩) hHeld ?_
      rotate_left
      · (intro wz hSw; (try dsimp only at hSw); (try simp only [List.getElem_toArray, List.getElem_cons_succ, List.getElem_cons_zero]); go_simp; try with_reducible rfl)
      try simp only [List.getElem_toArray, List.getElem_cons_succ, List.getElem_cons_zero, Act.put, List.setIfInBounds_toArray, List.set_cons_zero, List.set_cons_succ]
      refine wpAnyH_ready (rs := [8]) (by kernel_rfl) (by simp) ?_
      refine AllReadyH.cons rfl (fun K hK => ?_) AllReadyH.nil
      try simp only [List.getElem_toArray, List.getElem_cons_succ, List.getElem_cons_zero]
      go_simp
      obtain ⟨wb5, ew5⟩ : ∃ x : World, w4.alloc (.cells #[.int .i64 a1, .int .i64 a2, .int .i64 a3, .int .i64 a4, .int .i64 a5, .int .i64 a6, .bool a7] 83) = x := ⟨_, rfl⟩
      have bl5 : Below w4.heap.size w4 wb5 := by rw [← ew5]; exact (Below.refl _ _).alloc (Nat.le_refl _) _
      have q5 : wb5.heap[w4.heap.size]? = some (.cells [.int .i64 a1, .int .i64 a2, .int .i64 a3, .int .i64 a4, .int .i64 a5, .int .i64 a6, .bool a7].toArray 83 (0, 0)) := by rw [← ew5]; exact heap_last w4 _
      have g5 := grown_transW g4 (grown_below bl5 (some R))
      have r5 := r4.keep bl5 (Nat.le_refl _)
      rw [ew5]
      obtain ⟨G, eG5⟩ : ∃ n, w4.heap.size = n := ⟨_, rfl⟩
      try rw [eG5]
      rw [eG5] at q5
      refine hK.out _ _ (kpB_gr hz g5) (fun _ => ?_)
      clear hK K hHeld ew5
      try simp only [List.getElem_toArray, List.getElem_cons_succ, List.getElem_cons_zero, Act.put, List.setIfInBounds_toArray, List.set_cons_zero, List.set_cons_succ]
      have hHeld := kpB_gr (g := g) hz g5
      exact hcut G wb5 ⟨g5, r5, q5⟩
    · skip
      try simp only [List.getElem_toArray, List.getElem_cons_succ, List.getElem_cons_zero]
      go_simp
      refine (C1.out _ r0).mono ?_; rintro r w6 ⟨rfl, r6, k6⟩
      have g6 := grown_transW g0 k6
      refine hK.out _ _ (kpB_gr hz g6) (fun _ => ?_)
      clear hK K hHeld
      try simp only [List.getElem_toArray, List.getElem_cons_succ, List.getElem_cons_zero, Act.put, List.setIfInBounds_toArray, List.set_cons_zero, List.set_cons_succ]
      have hHeld := kpB_gr (g := g) hz g6
      refine wpAnyH_ready (rs := [0, 4]) (by kernel_rfl) (by simp) ?_
      refine AllReadyH.cons rfl (fun K hK => ?_) (AllReadyH.cons rfl (fun K hK => ?_) AllReadyH.nil)
      · skip
        try simp only [List.getElem_toArray, List.getElem_cons_zero]
        have kg := KG.out w6 g6
        go_simp
        clear kg
        refine hK.out _ _ hHeld (fun _ => ?_)
        clear hK K
        try simp only [List.getElem_toArray, List.getElem_cons_succ, List.getElem_cons_zero, Act.put, List.setIfInBounds_toArray, List.set_cons_zero, List.set_cons_succ]
        refine wpAnyH_ready (rs := [4]) (by kernel_rfl) (by simp) ?_
        refine AllReadyH.cons rfl (fun K hK => ?_) AllReadyH.nil
        try simp only [List.getElem_toArray, List.getElem_cons_succ, List.getElem_cons_zero]
        go_simp
        refine (C2.out _ r6).mono ?_; rintro r w8 ⟨rfl, r8, k8⟩
        have g8 := grown_transW g6 k8
        refine hK.out _ _ (kpB_gr hz g8) (fun _ => ?_)
        clear hK K hHeld
        try simp only [List.getElem_toArray, List.getElem_cons_succ, List.getElem_cons_zero, Act.put, List.setIfInBounds_toArray, List.set_cons_zero, List.set_cons_succ]
        have hHeld := kpB_gr (g := g) hz g8
        refine wpAnyH_ready (rs := [6]) (by kernel_rfl) (by simp) ?_
        refine AllReadyH.cons rfl (fun K hK => ?_) AllReadyH.nil
        try simp only [List.getElem_toArray, List.getElem_cons_succ, List.getElem_cons_zero]
        go_simp
        refine (C3.out _ r8).mono ?_; rintro r w9 ⟨rfl, r9, k9⟩
        have g9 := grown_transW g8 k9
        refine hK.out _ _ (kpB_gr hz g9) (fun _ => ?_)
        clear hK K hHeld
        try simp only [List.getElem_toArray, List.getElem_cons_succ, List.getElem_cons_zero, Act.put, List.setIfInBounds_toArray, List.set_cons_zero, List.set_cons_succ]
        have hHeld := kpB_gr (g := g) hz g9
        refine wpAnyH_take (i := 7) (v := ?_) rfl (by kernel_rfl) (by kernel_rfl) (by kernel_rfl) (fun _ _ _ h => h) (Or.inl ⟨by rfl, ?_⟩) hHeld ?_
        rotate_left
        · (intro wz hSw; (try dsimp only at hSw); (try simp only [List.getElem_toArray, List.getElem_cons_succ, List.getElem_cons_zero]); go_simp; try with_reducible rfl)
        try simp only [List.getElem_toArray, List.getElem_cons_succ, List.getElem_cons_zero, Act.put, List.setIfInBounds_toArray, List.set_cons_zero, List.set_cons_succ]
        refine wpAnyH_ready (rs := [8]) (by kernel_rfl) (by simp) ?_
        refine AllReadyH.cons rfl (fun K hK => ?_) AllReadyH.nil
        try simp only [List.getElem_toArray, List.getElem_cons_succ, List.getElem_cons_zero]
        go_simp
        obtain ⟨wb10, ew10⟩ : ∃ x : World, w9.alloc (.cells #[.int .i64 a1, .int .i64 a2, .int .i64 a3, .int .i64 a4, .int .i64 a5, .int .i64 a6, .bool a7] 83) = x := ⟨_, rfl⟩
        have bl10 : Below w9.heap.size w9 wb10 := by rw [← ew10]; exact (Below.refl _ _).alloc (Nat.le_refl _) _
        have q10 : wb10.heap[w9.heap.size]? = some (.cells [.int .i64 a1, .int .i64 a2, .int .i64 a3, .int .i64 a4, .int .i64 a5, .int .i64 a6, .bool a7].toArray 83 (0, 0)) := by rw [← ew10]; exact heap_last w9 _
        have g10 := grown_transW g9 (grown_below bl10 (some R))
        have r10 := r9.keep bl10 (Nat.le_refl _)
        rw [ew10]
        obtain ⟨G, eG10⟩ : ∃ n, w9.heap.size = n := ⟨_, rfl⟩
        try rw [eG10]
        rw [eG10] at q10
        refine hK.out _ _ (kpB_gr hz g10) (fun _ => ?_)
        clear hK K hHeld ew10
        try simp only [List.getElem_toArray, List.getElem_cons_succ, List.getElem_cons_zero, Act.put, List.setIfInBounds_toArray, List.set_cons_zero, List.set_cons_succ]
        have hHeld := kpB_gr (g := g) hz g10
        exact hcut G wb10 ⟨g10, r10, q10⟩
      · skip
        try simp only [List.getElem_toArray, List.getElem_cons_succ, List.getElem_cons_zero]
        go_simp
        refine (C2.out _ r6).mono ?_; rintro r w11 ⟨rfl, r11, k11⟩
        have g11 := grown_transW g6 k11
        refine hK.out _ _ (kpB_gr hz g11) (fun _ => ?_)
        clear hK K hHeld
        try simp only [List.getElem_toArray, List.getElem_cons_succ, List.getElem_cons_zero, Act.put, List.setIfInBounds_toArray, List.set_cons_zero, List.set_cons_succ]
        have hHeld := kpB_gr (g := g) hz g11
        refine wpAnyH_ready (rs := [0, 6]) (by kernel_rfl) (by simp) ?_
        refine AllReadyH.cons rfl (fun K hK => ?_) (AllReadyH.cons rfl (fun K hK => ?_) AllReadyH.nil)
        · skip
          try simp only [List.getElem_toArray, List.getElem_cons_zero]
          have kg := KG.out w11 g11
          go_simp
          clear kg
          refine hK.out _ _ hHeld (fun _ => ?_)
          clear hK K
          try simp only [List.getElem_toArray, List.getElem_cons_succ, List.getElem_cons_zero, Act.put, List.setIfInBounds_toArray, List.set_cons_zero, List.set_cons_succ]
          refine wpAnyH_ready (rs := [6]) (by kernel_rfl) (by simp) ?_
          refine AllReadyH.cons rfl (fun K hK => ?_) AllReadyH.nil
          try simp only [List.getElem_toArray, List.getElem_cons_succ, List.getElem_cons_zero]
          go_simp
          refine (C3.out _ r11).mono ?_; rintro r w13 ⟨rfl, r13, k13⟩
          have g13 := grown_transW g11 k13
          refine hK.out _ _ (kpB_gr hz g13) (fun _ => ?_)
          clear hK K hHeld
          try simp only [List.getElem_toArray, List.getElem_cons_succ, List.getElem_cons_zero, Act.put, List.setIfInBounds_toArray, List.set_cons_zero, List.set_cons_succ]
          have hHeld := kpB_gr (g := g) hz g13
          refine wpAnyH_take (i := 7) (v := ?_) rfl (by kernel_rfl) (by kernel_rfl) (by kernel_rfl) (fun _ _ _ h => h) (Or.inl ⟨by rfl, ?_⟩) hHeld ?_
          rotate_left
          · (intro wz hSw; (try dsimp only at hSw); (try simp only [List.getElem_toArray, List.getElem_cons_succ, List.getElem_cons_zero]); go_simp; try with_reducible rfl)
          try simp only [List.getElem_toArray, List.getElem_cons_succ, List.getElem_cons_zero, Act.put, List.setIfInBounds_toArray, List.set_cons_zero, List.set_cons_succ]
          refine wpAnyH_ready (rs := [8]) (by kernel_rfl) (by simp) ?_
          refine AllReadyH.cons rfl (fun K hK => ?_) AllReadyH.nil
          try simp only [List.getElem_toArray, List.getElem_cons_succ, List.getElem_cons_zero]
          go_simp
          obtain ⟨wb14, ew14⟩ : ∃ x : World, w13.alloc (.cells #[.int .i64 a1, .int .i64 a2, .int .i64 a3, .int .i64 a4, .int .i64 a5, .int .i64 a6, .bool a7] 83) = x := ⟨_, rfl⟩
          have bl14 : Below w13.heap.size w13 wb14 := by rw [← ew14]; exact (Below.refl _ _).alloc (Nat.le_refl _) _
          have q14 : wb14.heap[w13.heap.size]? = some (.cells [.int .i64 a1, .int .i64 a2, .int .i64 a3, .int .i64 a4, .int .i64 a5, .int .i64 a6, .bool a7].toArray 83 (0, 0)) := by rw [← ew14]; exact heap_last w13 _
          have g14 := grown_transW g13 (grown_below bl14 (some R))
          have r14 := r13.keep bl14 (Nat.le_refl _)
          rw [ew14]
          obtain ⟨G, eG14⟩ : ∃ n, w13.heap.size = n := ⟨_, rfl⟩
          try rw [eG14]
          rw [eG14] at q14
          refine hK.out _ _ (kpB_gr hz g14) (fun _ => ?_)
          clear hK K hHeld ew14
          try simp only [List.getElem_toArray, List.getElem_cons_succ, List.getElem_cons_zero, Act.put, List.setIfInBounds_toArray, List.set_cons_zero, List.set_cons_succ]
          have hHeld := kpB_gr (g := g) hz g14
          exact hcut G wb14 ⟨g14, r14, q14⟩
        · skip
          try simp only [List.getElem_toArray, List.getElem_cons_succ, List.getElem_cons_zero]
          go_simp
          refine (C3.out _ r11).mono ?_; rintro r w15 ⟨rfl, r15, k15⟩
          have g15 := grown_transW g11 k15
          refine hK.out _ _ (kpB_gr hz g15) (fun _ => ?_)
          clear hK K hHeld
          try simp only [List.getElem_toArray, List.getElem_cons_succ, List.getElem_cons_zero, Act.put, List.setIfInBounds_toArray, List.set_cons_zero, List.set_cons_succ]
          have hHeld := kpB_gr (g := g) hz g15
          refine wpAnyH_take (i := 7) (v := ?_) rfl (by kernel_rfl) (by kernel_rfl) (by kernel_rfl) (fun _ _ _ h => h) (Or.inl ⟨by rfl, ?_⟩) hHeld ?_
          rotate_left
          · (intro wz hSw; (try dsimp only at hSw); (try simp only [List.getElem_toArray, List.getElem_cons_succ, List.getElem_cons_zero]); go_simp; try with_reducible rfl)
          try simp only [List.getElem_toArray, List.getElem_cons_succ, List.getElem_cons_zero, Act.put, List.setIfInBounds_toArray, List.set_cons_zero, List.set_cons_succ]
          refine wpAnyH_ready (rs := [0, 8]) (by kernel_rfl) (by simp) ?_
          refine AllReadyH.cons rfl (fun K hK => ?_) (AllReadyH.cons rfl (fun K hK => ?_) AllReadyH.nil)
          · skip
            try simp only [List.getElem_toArray, List.getElem_cons_zero]
            have kg := KG.out w15 g15
            go_simp
            clear kg
            refine hK.out _ _ hHeld (fun _ => ?_)
            clear hK K
            try simp only [List.getElem_toArray, List.getElem_cons_succ, List.getElem_cons_zero, Act.put, List.setIfInBounds_toArray, List.set_cons_zero, List.set_cons_succ]
            refine wpAnyH_ready (rs := [8]) (by kernel_rfl) (by simp) ?_
            refine AllReadyH.cons rfl (fun K hK => ?_) AllReadyH.nil
            try simp only [List.getElem_toArray, List.getElem_cons_succ, List.getElem_cons_zero]
            go_simp
            obtain ⟨wb17, ew17⟩ : ∃ x : World, w15.alloc (.cells #[.int .i64 a1, .int .i64 a2, .int .i64 a3, .int .i64 a4, .int .i64 a5, .int .i64 a6, .bool a7] 83) = x := ⟨_, rfl⟩
            have bl17 : Below w15.heap.size w15 wb17 := by rw [← ew17]; exact (Below.refl _ _).alloc (Nat.le_refl _) _
            have q17 : wb17.heap[w15.heap.size]? = some (.cells [.int .i64 a1, .int .i64 a2, .int .i64 a3, .int .i64 a4, .int .i64 a5, .int .i64 a6, .bool a7].toArray 83 (0, 0)) := by rw [← ew17]; exact heap_last w15 _
            have g17 := grown_transW g15 (grown_below bl17 (some R))
            have r17 := r15.keep bl17 (Nat.le_refl _)
            rw [ew17]
            obtain ⟨G, eG17⟩ : ∃ n, w15.heap.size = n := ⟨_, rfl⟩
            try rw [eG17]
            rw [eG17] at q17
            refine hK.out _ _ (kpB_gr hz g17) (fun _ => ?_)
            clear hK K hHeld ew17
            try simp only [List.getElem_toArray, List.getElem_cons_succ, List.getElem_cons_zero, Act.put, List.setIfInBounds_toArray, List.set_cons_zero, List.set_cons_succ]
            have hHeld := kpB_gr (g := g) hz g17
            exact hcut G wb17 ⟨g17, r17, q17⟩
          · skip
            try simp only [List.getElem_toArray, List.getElem_cons_succ, List.getElem_cons_zero]
            go_simp
            obtain ⟨wb18, ew18⟩ : ∃ x : World, w15.alloc (.cells #[.int .i64 a1, .int .i64 a2, .int .i64 a3, .int .i64 a4, .int .i64 a5, .int .i64 a6, .bool a7] 83) = x := ⟨_, rfl⟩
            have bl18 : Below w15.heap.size w15 wb18 := by rw [← ew18]; exact (Below.refl _ _).alloc (Nat.le_refl _) _
            have q18 : wb18.heap[w15.heap.size]? = some (.cells [.int .i64 a1, .int .i64 a2, .int .i64 a3, .int .i64 a4, .int .i64 a5, .int .i64 a6, .bool a7].toArray 83 (0, 0)) := by rw [← ew18]; exact heap_last w15 _
            have g18 := grown_transW g15 (grown_below bl18 (some R))
            have r18 := r15.keep bl18 (Nat.le_refl _)
            rw [ew18]
            obtain ⟨G, eG18⟩ : ∃ n, w15.heap.size = n := ⟨_, rfl⟩
            try rw [eG18]
            rw [eG18] at q18
            refine hK.out _ _ (kpB_gr hz g18) (fun _ => ?_)
            clear hK K hHeld ew18
            try simp only [List.getElem_toArray, List.getElem_cons_succ, List.getElem_cons_zero, Act.put, List.setIfInBounds_toArray, List.set_cons_zero, List.set_cons_succ]
            have hHeld := kpB_gr (g := g) hz g18
            refine wpAnyH_ready (rs := [0]) (by kernel_rfl) (by simp) ?_
            refine AllReadyH.cons rfl (fun K hK => ?_) AllReadyH.nil
            try simp only [List.getElem_toArray, List.getElem_cons_zero]
            have kg := KG.out wb18 g18
            go_simp
            clear kg
            refine hK.out _ _ hHeld (fun _ => ?_)
            clear hK K
            try simp only [List.getElem_toArray, List.getElem_cons_succ, List.getElem_cons_zero, Act.put, List.setIfInBounds_toArray, List.set_cons_zero, List.set_cons_succ]
            exact hcut G wb18 ⟨g18, r18, q18⟩
  intro G wL hR
  obtain ⟨gL, rL, qL⟩ := hR
  have hHeld := kpB_gr (g := g) hz gL
  refine wpAnyH_ready (rs := [9]) (by kernel_rfl) (by simp) ?_; refine AllReadyH.cons rfl (fun K hK => ?_) AllReadyH.nil
  rw [if_pos (by rfl)]
  have hne : v.ownBlock = none ∨ v.ownBlock ≠ some R := by
    cases e : v.ownBlock with
    | none => exact .inl rfl
    | some x => exact .inr fun h => by have := (HO.out.lt x e).1; simp only [Option.some.injEq] at h; omega
  have hoL := HO.out.kept gL hne
  refine wp_append_one _ _ 31 (by rfl) base 83 i0 _ 7 56 Try.underlying31 hi hz0 hz1 hz2 rfl (by decide) v acc.length (ouR acc) (by rfl) hoL G [.int .i64 a1, .int .i64 a2, .int .i64 a3, .int .i64 a4, .int .i64 a5, .int .i64 a6, .bool a7] 83 (by rfl) qL rfl (by intro u hu; simp only [List.mem_cons, List.not_mem_nil, or_false] at hu; rcases hu with rfl | rfl | rfl | rfl | rfl | rfl | rfl <;> rfl) (by unfold maxLen; omega) (by omega) (Nat.le_trans hz gL.size) ?_
  intro v2 wA ho2 hg2 hat
  obtain ⟨g2, cap2, hv2⟩ : ∃ g2 cap2, v2 = .slice (some ⟨g2, 0, none⟩) (acc.length + 1) cap2 := by
    rcases ho2.2 with ⟨-, h⟩ | ⟨g2, cap2, cur2, e, -⟩
    · omega
    · exact ⟨g2, cap2, e⟩
  subst hv2
  have rB : ∀ k, v.ownBlock = some k → base ≤ k := fun k hk => (HO.out.lt k hk).1
  have hGL := rd_stays gL HG.out (by omega)
  have hTL := rd_stays gL HT.out (by omega)
  have rA := rL.row hg2 (fun k hk => by have := rB k hk; omega)
  have hGA := (hg2.block g (block_lt hGL) (fun e => by have := rB g e.symm; omega)).trans hGL
  have hTA := (hg2.block T (block_lt hTL) (fun e => by have := rB T e.symm; omega)).trans hTL
  have hBA : w0.grownBy wA (some R) := grown_row (grown_transW HB.out gL) hg2 (fun k hk => by have := rB k hk; omega)
  have hzA : base ≤ wA.heap.size := Nat.le_trans hz (Nat.le_trans gL.size hg2.size)
  have hSA : KpB base R g w wA := fun k hk hr hgk => (hg2.block k (by have := gL.size; omega) (fun e => by have := rB k e.symm; omega)).trans (hHeld k hk hr hgk)
  refine hK.out _ _ hSA (fun _ => ?_)
  clear hK K hHeld gL rL qL hoL hg2 hat hGL hTL KG
  try simp only [List.getElem_toArray, List.getElem_cons_succ, List.getElem_cons_zero, Act.put, List.setIfInBounds_toArray, List.set_cons_zero, List.set_cons_succ]
  have hHeld := hSA
  have kg := block_cells hGA
  have fg := block_free hGA
  refine wpAnyH_ready (rs := [10]) (by kernel_rfl) (by simp) ?_; refine AllReadyH.cons rfl (fun K hK => ?_) AllReadyH.nil; (try simp only [List.getElem_toArray, List.getElem_cons_succ, List.getElem_cons_zero]); go_simp
  have hGB := (cells_setW hGA 0 (Value.slice (some ⟨g2, 0, none⟩) (acc.length + 1) cap2)).trans rfl
  have hTB := (Below.heap_setCell wA ⟨g, 0, none⟩ (Value.slice (some ⟨g2, 0, none⟩) (acc.length + 1) cap2) T (by show T ≠ g; omega)).trans hTA
  have rC : RdW B (wA.setCell ⟨g, 0, none⟩ (Value.slice (some ⟨g2, 0, none⟩) (acc.length + 1) cap2)) R X3 b3 := ⟨rA.r.setFar rg (Value.slice (some ⟨g2, 0, none⟩) (acc.length + 1) cap2), rA.o, rA.l⟩
  have hBB := grown_setFar (j := 0) (v := (Value.slice (some ⟨g2, 0, none⟩) (acc.length + 1) cap2)) hBA ng
  have hoB := ho2.kept (grown_set wA g 0 (Value.slice (some ⟨g2, 0, none⟩) (acc.length + 1) cap2)) (by
    cases e : ((Value.slice (some ⟨g2, 0, none⟩) (acc.length + 1) cap2)).ownBlock with
    | none => exact .inl rfl
    | some x => exact .inr fun h => by have := (ho2.lt x e).1; simp only [Option.some.injEq] at h; omega)
  have hSB : KpB base R g w (wA.setCell ⟨g, 0, none⟩ (Value.slice (some ⟨g2, 0, none⟩) (acc.length + 1) cap2)) := fun k hk hr hgk => (Below.heap_setCell wA ⟨g, 0, none⟩ (Value.slice (some ⟨g2, 0, none⟩) (acc.length + 1) cap2) k hgk).trans (hSA k hk hr hgk)
  refine hK.out _ _ hSB (fun _ => ?_)
  clear hK K hHeld kg fg
  try simp only [List.getElem_toArray, List.getElem_cons_succ, List.getElem_cons_zero, Act.put, List.setIfInBounds_toArray, List.set_cons_zero, List.set_cons_succ]
  refine wpAnyH_done (by kernel_rfl) ?_ _
  go_wp2_with fail
  first | go_end0 | go_ret
  rw [HR.out]
  refine ⟨rfl, rC, ⟨⟨(Value.slice (some ⟨g2, 0, none⟩) (acc.length + 1) cap2), hGB, ?_⟩, hTB, hBB, by simpa [World.setCell] using hzA, hkp.trans hSB⟩⟩
  have e1 : ouR (acc ++ [⟨a1, a2, a3, a4, a5, a6, a7⟩]) = ouR acc ++ [.int .i64 a1, .int .i64 a2, .int .i64 a3, .int .i64 a4, .int .i64 a5, .int .i64 a6, .bool a7] := by simp [ouR]
  rw [e1, List.length_append]; exact hoB
end Go.Proofs.Ytmhmlpfkdpjlaaa
