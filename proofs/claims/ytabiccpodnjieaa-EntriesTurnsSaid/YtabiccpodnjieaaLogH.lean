/- slices.Clone of entries. -/
import Derived.Test.YtabiccpodnjieaaLogF
namespace Go.Proofs.Ytabiccpodnjieaa
open Go.ChangeShapes Go.WideShapes Go.ChangeAt Go.RowKit

set_option maxRecDepth 100000 in
set_option maxHeartbeats 4000000 in
theorem clone_any (v : Value) (L : List Ent) (w : World) (hE : EnSl w v L) (hl : L.length ≤ 1000000) :
    Calls Try.prog 39 #[v] w fun r w' => ∃ v', r = .returned v' ∧ w'.ownsRow w.heap.size 47 14 v' L.length (entRow L) ∧ Below w.heap.size w w' := by
  obtain ⟨i0, hi, hz0, hz1, hz2⟩ := info_parts Try.infoEn
  have HE : Hid (Sl w.heap.size w v 14 L.length (entRow L)) := hE
  have HL := Lib.hid (entC_one L)
  have hq : ∀ (w : World) (a : Option Addr) (n c n' c' : Nat), (binOp .eql 30 (.slice a n c) (.slice none n' c')).run Try.prog w = .ok (.bool a.isNone) w := fun w a n c n' c' => Lib.run_eql_slice_nil w _ _ a n c n' c' Try.underlying30
  rcases hE.2 with ⟨rfl, h0⟩ | ⟨ad, cap, rfl, h1, h2, -⟩
  · have hL : L = [] := List.length_eq_zero_iff.1 h0
    subst hL
    clear hE
    go_enter Try.func39, Try.ntmps39
    go_wp2_with fail
    go_ret
    exact ⟨_, rfl, World.ownsRow_nil _ _ _ _, Below.refl _ _⟩
  · clear hE
    go_enter Try.func39, Try.ntmps39
    go_wp2_with (at_builtin; refine wpList_append_sl rfl _ _ 30 rfl w.heap.size 47 i0 (.agg #[.int .i64 0, .int .i64 0, .string ⟨#[]⟩, .int .u16 0, .int .u16 0, .int .u16 0, .int .i64 0, .int .i64 0, .int .u16 0, .int .u16 0, .int .u16 0, .int .i64 0, .int .i64 0, .bool false]) 14 88 Try.underlying30 hi hz0 hz1 hz2 rfl (by decide) _ 0 [] rfl (World.ownsRow_made w #[] 0 (Nat.le_refl _) (Nat.zero_le _) (by simp)) w.heap.size _ L.length (entRow L) rfl (HE.out.keep (((Below.refl _ _).alloc (Nat.le_refl _) _))) HL.out ?_ ?_ (by simp) ?_)
    · unfold maxLen; omega
    · omega
    intro v3 w3 hown3 hgrow3
    have HO3 : Hid (w3.ownsRow w.heap.size 47 14 v3 L.length (entRow L)) := hown3
    have HB3 : Hid (Below w.heap.size w w3) := ((Below.refl _ _).alloc (Nat.le_refl _) _).grown hgrow3 (by simp) (fun j hj => by simp [Value.ownBlock] at hj; omega)
    clear hown3 hgrow3
    go_wp2_with fail
    go_ret
    exact ⟨_, rfl, HO3.out, HB3.out⟩
end Go.Proofs.Ytabiccpodnjieaa
