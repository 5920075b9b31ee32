/- Wire: how numbers, texts, truths, stamps and attempts are laid behind bytes: package wire. -/
import Derived.Test.YtjaabakobpabjaaNums
import Derived.Laws.IdiomStrings
namespace Go.Proofs.Ytjaabakobpabjaa
open Go.ChangeShapes Go.WideShapes Go.ChangeAt Go.RowKit

/-- Bytes behind bytes, in a row of its own at or above 'base'; what is below B is as it was. -/
def WEnd (base B : Nat) (w : World) (ys : List Int) (e : Ending) (w' : World) : Prop := ∃ v', e = .returned v' ∧ w'.ownsRow base 5 1 v' ys.length (byt ys) ∧ Below B w w'
/-- Where a row lies that k calls have made anew. -/
def bsW (base sz k : Nat) : Nat := if k = 0 then base else sz
theorem bsW_le {base sz k : Nat} (h : base ≤ sz) : bsW base sz k ≤ sz := by unfold bsW; split <;> omega
theorem bsW_next {base sz k : Nat} : bsW base sz (k + 1) = sz := by unfold bsW; rw [if_neg (by omega)]
theorem own_baseW {w : World} {base base' : Nat} {e : TypeId} {size : Nat} {v : Value} {n : Nat} {xs : List Value} (h : w.ownsRow base e size v n xs) (hb : base' ≤ base) : w.ownsRow base' e size v n xs := h.mono hb
theorem encN_len {x : Int} (h : In64 x) : 1 ≤ (encN x).length ∧ (encN x).length ≤ 10 := by
  have := zigI_fit h
  exact varN_len 10 (zigI x).toNat (by have : 128 ^ 10 = 1180591620717411303424 := (by decide); omega) (by omega)
theorem encNs_len : ∀ {l : List Int}, (∀ x ∈ l, In64 x) → (l.flatMap encN).length ≤ l.length * 10
  | [], _ => by simp
  | a :: l, h => by
    rw [List.flatMap_cons, List.length_append, List.length_cons]
    have h1 := (encN_len (h a (by simp))).2
    have h2 := encNs_len (l := l) (fun x hx => h x (by simp [hx]))
    omega
theorem flat_next {α : Type} {f : α → List Int} {l : List α} {k : Nat} (h : k < l.length) : (l.take (k + 1)).flatMap f = (l.take k).flatMap f ++ f l[k] := by
  rw [List.take_succ_eq_append_getElem h, List.flatMap_append]; simp
theorem flat_all {α : Type} {f : α → List Int} {l : List α} : (l.take l.length).flatMap f = l.flatMap f := by rw [List.take_length]
theorem own_less {w w' : World} {base : Nat} {v : Value} {ys : List Int} (h : w.ownsRow base 5 1 v ys.length (byt ys)) (hb : Below w.heap.size w w') : w'.ownsRow base 5 1 v ys.length (byt ys) :=
  h.kept (row := none) ⟨hb.os, hb.tape, hb.output, hb.size, fun k hk _ => hb.block k hk⟩ (by cases v.ownBlock <;> simp)
/-- '[]byte(s)': the bytes, in a block of their own. -/
theorem conv_bytes (s : ByteArray) (w : World) (hs : s.size ≤ maxLen) : ∃ cap w1, (convert 9 32 (.string s)).run Try.prog w = .ok (.slice (some ⟨w.heap.size, 0, none⟩) s.size cap) w1 ∧ Sl w1.heap.size w1 (.slice (some ⟨w.heap.size, 0, none⟩) s.size cap) 1 (txW s).length (byt (txW s)) ∧ Below w.heap.size w w1 := by
  refine ⟨_, _, run_bytes_of_string w 9 32 5 s Try.underlying9 Try.underlying32 Try.underlying5, ?_, ?_⟩
  · refine ⟨by simp [byt], .inr ⟨_, _, by rw [txW_len], by rw [txW_len]; exact grownCap_ge w s.size 0 5, grownCap_le_maxLen w s.size 0 5 hs, fun _ => ⟨w.heap.size, 0, rfl, by show _ < (w.drew.alloc _).heap.size; simp, fun j hj => ?_⟩⟩⟩
    rw [txW_len, Nat.mul_one] at hj
    have hcell := cell_of_row (w.drew.alloc (.cells (bytesRow s (grownCap w s.size 0 5)) 5 ((bytesRow s (grownCap w s.size 0 5)).size, (bytesRow s (grownCap w s.size 0 5)).size + 1))) w.heap.size j _ _ _ (heap_last w.drew _)
    rw [Nat.zero_add, hcell]
    have hj' : j < s.data.size := hj
    unfold bytesRow byt txW
    have hj2 : j < s.size := hj'
    simp [Array.getElem?_append, hj2]
  · exact ((Below.refl _ _).drew).alloc (Nat.le_refl _) _
set_option maxRecDepth 100000 in
set_option maxHeartbeats 4000000 in
theorem num_any (base : Nat) (v : Value) (xs : List Int) (p : Option Addr) (c : Nat) (vs : List Int) (w : World) (ho : w.ownsRow base 5 1 v xs.length (byt xs)) (_hB : base ≤ w.heap.size) (hn : NumsAt w p vs) (hv : ∀ x ∈ vs, In64 x) (hl : vs.length ≤ 100) (hb : (xs.length : Int) ≤ 140737488350000) :
    Calls Try.prog 89 #[v, .slice p vs.length c] w (WEnd (bsW base w.heap.size vs.length) w.heap.size w (xs ++ vs.flatMap encN)) := by
  have HN := Lib.hid hn; have HV := Lib.hid hv
  have HO : Hid (w.ownsRow (bsW base w.heap.size 0) 5 1 v (xs ++ (vs.take 0).flatMap encN).length (byt (xs ++ (vs.take 0).flatMap encN)) ∧ Below w.heap.size w w) := by show _ ∧ _; simp only [List.take_zero, List.flatMap_nil, List.append_nil]; exact ⟨ho, Below.refl _ _⟩
  clear hn hv ho
  go_enter Try.func89, Try.ntmps89
  go_wp2_with fail
  go_loopw [0, 9] (fun u i wr => ∃ k : Nat, k ≤ vs.length ∧ i = .int .i64 k ∧ Hid (wr.ownsRow (bsW base w.heap.size k) 5 1 u (xs ++ (vs.take k).flatMap encN).length (byt (xs ++ (vs.take k).flatMap encN)) ∧ Below w.heap.size w wr)) (fun _ i _ => vs.length - (intOf i).toNat)
  case atStart => exact ⟨0, Nat.zero_le _, rfl, HO⟩
  case round =>
    clear HO
    obtain ⟨k, hk, rfl, HO⟩ := hrel
    obtain ⟨wk, rfl⟩ : ∃ wk : World, wk = wr := ⟨_, rfl⟩
    by_cases hlt : k < vs.length
    · have hd : decide ((k : Int) < (vs.length : Int)) = true := by simp; omega
      obtain ⟨g, o, hpe, hg, hc⟩ := (HN.out.keep HO.out.2 (Nat.le_refl _)) k hlt
      obtain ⟨x, hx⟩ : ∃ x, vs[k] = x := ⟨_, rfl⟩
      have hxi := HV.out x (by rw [← hx]; exact List.getElem_mem hlt)
      rw [hx] at hc
      subst hpe
      have hfl : (xs ++ (vs.take k).flatMap encN).length ≤ xs.length + 1000 := by
        have := encNs_len (l := vs.take k) (fun y hy => HV.out y (List.mem_of_mem_take hy)); rw [List.length_append]; rw [List.length_take] at this; omega
      have hva := var_any wk.heap.size _ (xs ++ (vs.take k).flatMap encN) (zigI x) wk (Sl.of_own HO.out.1) (Nat.le_refl _) (by omega) (zigI_fit hxi).1 (zigI_fit hxi).2
      have HVA := Lib.hid hva
      have HZ := Lib.hid (zig_any x wk hxi.1 hxi.2)
      have HNX : Hid ((xs ++ (vs.take k).flatMap encN) ++ varN (zigI x).toNat = xs ++ (vs.take (k + 1)).flatMap encN) := by show _ = _; rw [flat_next hlt, hx, List.append_assoc]; rfl
      clear hva hx hg hfl hxi
      go_wp2_with fail
      refine HZ.out.mono ?_; rintro e w' ⟨rfl, rfl⟩
      go_wp2_with fail
      refine HVA.out.mono ?_; rintro e w2 ⟨v2, rfl, ho2, hb2⟩
      rw [HNX.out] at ho2
      have HO2 : Hid (w2.ownsRow (bsW base w.heap.size (k + 1)) 5 1 v2 (xs ++ (vs.take (k + 1)).flatMap encN).length (byt (xs ++ (vs.take (k + 1)).flatMap encN)) ∧ Below w.heap.size w w2) := ⟨own_baseW ho2 (by rw [bsW_next]; exact HO.out.2.size), HO.out.2.trans (hb2.mono HO.out.2.size)⟩
      clear ho2 hb2 hc HO HVA HZ HNX
      go_wp2_with fail
      go_roundw
      case rel => exact ⟨k + 1, by omega, by go_num, HO2⟩
      case measure => simp [intOf]; omega
    · obtain rfl : k = vs.length := by omega
      have hd : decide ((vs.length : Int) < (vs.length : Int)) = false := by simp
      go_wp2_with fail
      have h := HO.out
      rw [flat_all] at h
      go_ret
      exact ⟨_, rfl, h.1, h.2⟩
theorem num_one (base : Nat) (v : Value) (xs : List Int) (x : Int) (c : Nat) (g o : Nat) (w : World) (ho : w.ownsRow base 5 1 v xs.length (byt xs)) (hB : base ≤ w.heap.size) (hg : g < w.heap.size) (hc : w.cell? ⟨g, o, none⟩ = some (.int .i64 x)) (hx : In64 x) (hb : (xs.length : Int) ≤ 140737488350000) :
    Calls Try.prog 89 #[v, .slice (some ⟨g, o, none⟩) 1 c] w (WEnd w.heap.size w.heap.size w (xs ++ encN x)) := by
  have := num_any base v xs (some ⟨g, o, none⟩) c [x] w ho hB (fun j hj => by
    have : j = 0 := by simp at hj; omega
    subst this
    exact ⟨g, o, rfl, hg, by simpa using hc⟩) (fun y hy => by simp at hy; rw [hy]; exact hx) (by simp) hb
  simpa [bsW] using this
set_option maxRecDepth 100000 in
set_option maxHeartbeats 4000000 in
theorem ints_any (base : Nat) (v : Value) (xs : List Int) (p : Option Addr) (c : Nat) (vs : List Int) (w : World) (ho : w.ownsRow base 5 1 v xs.length (byt xs)) (hB : base ≤ w.heap.size) (hn : NumsAt w p vs) (hv : ∀ x ∈ vs, In64 x) (hl : vs.length ≤ 100) (hb : (xs.length : Int) ≤ 140737488340000) :
    Calls Try.prog 72 #[v, .slice p vs.length c] w (WEnd (bsW base w.heap.size vs.length) w.heap.size w (xs ++ vs.flatMap encN)) := by
  have HN := Lib.hid hn; have HV := Lib.hid hv
  have HO : Hid (w.ownsRow (bsW base w.heap.size 0) 5 1 v (xs ++ (vs.take 0).flatMap encN).length (byt (xs ++ (vs.take 0).flatMap encN)) ∧ Below w.heap.size w w) := by show _ ∧ _; simp only [List.take_zero, List.flatMap_nil, List.append_nil]; exact ⟨ho, Below.refl _ _⟩
  clear hn hv ho
  go_enter Try.func72, Try.ntmps72
  go_wp2_with fail
  go_loopw [0, 9] (fun u i wr => ∃ k : Nat, k ≤ vs.length ∧ i = .int .i64 k ∧ Hid (wr.ownsRow (bsW base w.heap.size k) 5 1 u (xs ++ (vs.take k).flatMap encN).length (byt (xs ++ (vs.take k).flatMap encN)) ∧ Below w.heap.size w wr)) (fun _ i _ => vs.length - (intOf i).toNat)
  case atStart => exact ⟨0, Nat.zero_le _, rfl, HO⟩
  case round =>
    clear HO
    obtain ⟨k, hk, rfl, HO⟩ := hrel
    obtain ⟨wk, rfl⟩ : ∃ wk : World, wk = wr := ⟨_, rfl⟩
    by_cases hlt : k < vs.length
    · have hd : decide ((k : Int) < (vs.length : Int)) = true := by simp; omega
      obtain ⟨g, o, hpe, hg, hc⟩ := (HN.out.keep HO.out.2 (Nat.le_refl _)) k hlt
      obtain ⟨x, hx⟩ : ∃ x, vs[k] = x := ⟨_, rfl⟩
      have hxi := HV.out x (by rw [← hx]; exact List.getElem_mem hlt)
      rw [hx] at hc
      subst hpe
      have hfl : (xs ++ (vs.take k).flatMap encN).length ≤ xs.length + 1000 := by
        have := encNs_len (l := vs.take k) (fun y hy => HV.out y (List.mem_of_mem_take hy)); rw [List.length_append]; rw [List.length_take] at this; omega
      have hW : Below wk.heap.size wk (wk.alloc (.cells #[.int .i64 x] 2)) := (Below.refl _ _).alloc (Nat.le_refl _) _
      have HVA := Lib.hid (num_one (bsW base w.heap.size k) _ (xs ++ (vs.take k).flatMap encN) x 1 wk.heap.size 0 (wk.alloc (.cells #[.int .i64 x] 2)) (own_less HO.out.1 hW) (Nat.le_trans (bsW_le hB) (Nat.le_trans HO.out.2.size hW.size)) (by simp) (by rw [block_cells (heap_last wk _)]; rfl) hxi (by omega))
      have HW := Lib.hid hW
      have HNX : Hid ((xs ++ (vs.take k).flatMap encN) ++ encN x = xs ++ (vs.take (k + 1)).flatMap encN) := by show _ = _; rw [flat_next hlt, hx, List.append_assoc]
      clear hx hg hfl hxi hW
      go_wp2_with fail
      refine HVA.out.mono ?_; rintro e w2 ⟨v2, rfl, ho2, hb2⟩
      rw [HNX.out] at ho2
      have HO2 : Hid (w2.ownsRow (bsW base w.heap.size (k + 1)) 5 1 v2 (xs ++ (vs.take (k + 1)).flatMap encN).length (byt (xs ++ (vs.take (k + 1)).flatMap encN)) ∧ Below w.heap.size w w2) := ⟨own_baseW ho2 (by rw [bsW_next]; exact Nat.le_trans HO.out.2.size HW.out.size), HO.out.2.trans ((HW.out.trans (hb2.mono HW.out.size)).mono HO.out.2.size)⟩
      clear ho2 hb2 hc HO HVA HNX HW
      go_wp2_with fail
      go_roundw
      case rel => exact ⟨k + 1, by omega, by go_num, HO2⟩
      case measure => simp [intOf]; omega
    · obtain rfl : k = vs.length := by omega
      have hd : decide ((vs.length : Int) < (vs.length : Int)) = false := by simp
      go_wp2_with fail
      have h := HO.out
      rw [flat_all] at h
      go_ret
      exact ⟨_, rfl, h.1, h.2⟩
end Go.Proofs.Ytjaabakobpabjaa
