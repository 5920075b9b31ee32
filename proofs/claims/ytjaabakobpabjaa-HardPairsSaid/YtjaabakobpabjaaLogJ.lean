import Derived.Test.YtjaabakobpabjaaLogF
/- slices.Clone of entries. -/
namespace Go.Proofs.Ytjaabakobpabjaa
open Go.ChangeShapes Go.WideShapes Go.ChangeAt Go.RowKit

set_option maxRecDepth 100000 in
set_option maxHeartbeats 4000000 in
theorem clone_any (v : Value) (L : List Ent) (w : World) (hE : EnSl w v L) (hl : L.length ≤ 1000000) :
    Calls Try.prog 84 #[v] w fun r w' => ∃ v', r = .returned v' ∧ w'.ownsRow w.heap.size 85 14 v' L.length (entRow L) ∧ Below w.heap.size w w' := by
  obtain ⟨i0, hi, hz0, hz1, hz2⟩ := info_parts Try.infoEn
  have HE : Hid (Sl w.heap.size w v 14 L.length (entRow L)) := hE
  have HL := Lib.hid (entC_one L)
  have hq : ∀ (w : World) (a : Option Addr) (n c n' c' : Nat), (binOp .eql 43 (.slice a n c) (.slice none n' c')).run Try.prog w = .ok (.bool a.isNone) w := fun w a n c n' c' => Lib.run_eql_slice_nil w _ _ a n c n' c' Try.underlying43
  rcases hE.2 with ⟨rfl, h0⟩ | ⟨ad, cap, rfl, h1, h2, -⟩
  · have hL : L = [] := List.length_eq_zero_iff.1 h0
    subst hL
    clear hE
    go_enter Try.func84, Try.ntmps84
    go_wp2_with fail
    go_ret
    exact ⟨_, rfl, World.ownsRow_nil _ _ _ _, Below.refl _ _⟩
  · clear hE
    go_enter Try.func84, Try.ntmps84
    go_wp2_with (at_builtin; refine wpList_append_sl rfl _ _ 43 rfl w.heap.size 85 i0 (.agg #[.int .i64 0, .int .i64 0, .string ⟨#[]⟩, .int .u16 0, .int .u16 0, .int .u16 0, .int .i64 0, .int .i64 0, .int .u16 0, .int .u16 0, .int .u16 0, .int .i64 0, .int .i64 0, .bool false]) 14 88 Try.underlying43 hi hz0 hz1 hz2 rfl (by decide) _ 0 [] rfl (World.ownsRow_made w #[] 0 (Nat.le_refl _) (Nat.zero_le _) (by simp)) w.heap.size _ L.length (entRow L) rfl (HE.out.keep (((Below.refl _ _).alloc (Nat.le_refl _) _))) HL.out ?_ ?_ (by simp) ?_)
    · unfold maxLen; omega
    · omega
    intro v3 w3 hown3 hgrow3
    have HO3 : Hid (w3.ownsRow w.heap.size 85 14 v3 L.length (entRow L)) := hown3
    have HB3 : Hid (Below w.heap.size w w3) := ((Below.refl _ _).alloc (Nat.le_refl _) _).grown hgrow3 (by simp) (fun j hj => by simp [Value.ownBlock] at hj; omega)
    clear hown3 hgrow3
    go_wp2_with fail
    go_ret
    exact ⟨_, rfl, HO3.out, HB3.out⟩
end Go.Proofs.Ytjaabakobpabjaa
/- Entries from k on. -/
namespace Go.Proofs.Ytjaabakobpabjaa
open Go.ChangeShapes Go.WideShapes Go.ChangeAt Go.RowKit

theorem entRow_drop (L : List Ent) (n : Nat) : entRow (L.drop n) = (entRow L).drop (n * 14) := by
  induction L generalizing n with
  | nil => simp [entRow]
  | cons x t ih =>
    cases n with
    | zero => simp
    | succ m =>
      have hl : (entC x).length = 14 := rfl
      have h2 : entRow (x :: t) = entC x ++ entRow t := rfl
      have h3 : (x :: t).drop (m + 1) = t.drop m := rfl
      rw [h3, h2, ih, List.drop_append, hl, List.drop_eq_nil_of_le (show (entC x).length ≤ (m + 1) * 14 by rw [hl]; omega), show (m + 1) * 14 - 14 = m * 14 by omega]
      rfl
/-- From k on: the address goes up by k entries. -/
theorem EnSl.drop {w : World} {p : Option Addr} {c : Nat} {L : List Ent} (h : EnSl w (.slice p L.length c) L) {k : Nat} (hk : k ≤ L.length) : EnSl w (.slice (Option.map (fun x => x.add (k * 14)) p) (L.drop k).length (c - k)) (L.drop k) := by
  have hln : (L.drop k).length = L.length - k := by rw [List.length_drop]
  unfold EnSl at h ⊢
  rw [hln]
  refine ⟨by rw [entRow_len, hln], ?_⟩
  rcases h.2 with ⟨h2, h3⟩ | ⟨ad, cap, h2, h3, h4, h5⟩
  · left
    simp only [Value.slice.injEq] at h2
    obtain ⟨rfl, h6, rfl⟩ := h2
    exact ⟨by simp [h6], by omega⟩
  · right
    simp only [Value.slice.injEq] at h2
    obtain ⟨rfl, -, rfl⟩ := h2
    refine ⟨ad.add (k * 14), c - k, rfl, by omega, by omega, fun h0 => ?_⟩
    obtain ⟨g, o, rfl, h7, h8⟩ := h5 (by omega)
    refine ⟨g, o + k * 14, by unfold Addr.add; split <;> simp_all, h7, fun j hj => ?_⟩
    rw [Nat.add_assoc, h8 _ (by omega), entRow_drop, List.getElem?_drop]
/-- Nothing is left: any address. -/
theorem EnSl.drop0 {w : World} {q : Option Addr} {c' : Nat} {L : List Ent} {k : Nat} (hk : L.length ≤ k) (hc : c' ≤ maxLen) (hq : q = none → c' = 0) : EnSl w (.slice q (L.drop k).length c') (L.drop k) := by
  have hd : L.drop k = [] := List.drop_eq_nil_of_le hk
  rw [hd]
  refine ⟨rfl, ?_⟩
  cases q with
  | none => left; rw [hq rfl]; exact ⟨rfl, rfl⟩
  | some a => right; exact ⟨a, c', rfl, Nat.zero_le _, hc, fun h => absurd h (Nat.lt_irrefl 0)⟩
/-- From k on, as the program has it: at the capacity's end the address stays. -/
theorem EnSl.drop_if {w : World} {p : Option Addr} {c : Nat} {L : List Ent} (h : EnSl w (.slice p L.length c) L) {k : Nat} (hk : k ≤ L.length) : EnSl w (.slice (if c = k then p else Option.map (fun x => x.add (k * 14)) p) (L.length - k) (c - k)) (L.drop k) := by
  have hln : L.length - k = (L.drop k).length := by rw [List.length_drop]
  rw [hln]
  split
  · rename_i hc
    obtain ⟨p', c', he, hc1, hc2⟩ := h.form
    simp only [Value.slice.injEq] at he
    obtain ⟨rfl, -, rfl⟩ := he
    exact EnSl.drop0 (by omega) (by omega) (fun _ => by omega)
  · exact h.drop hk
end Go.Proofs.Ytjaabakobpabjaa
