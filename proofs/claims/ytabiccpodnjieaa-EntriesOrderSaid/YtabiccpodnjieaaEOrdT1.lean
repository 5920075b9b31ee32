/- EntriesOrder: its last region. -/
import Derived.Test.YtabiccpodnjieaaLogO
import Derived.Test.YtabiccpodnjieaaPlainOrderL
import Derived.Test.YtabiccpodnjieaaPiece
namespace Go.Proofs.Ytabiccpodnjieaa
open Go.ChangeShapes Go.WideShapes Go.ChangeAt Go.RowKit

set_option maxRecDepth 100000 in
set_option maxHeartbeats 16000000 in
theorem eord_tail1 (l m n : Lg) (p1 p2 p3 : Option Addr) (k1 k2 k3 A : Nat) (VL VM VN : Value) (hVL : Value.agg #[.int .i64 l.b, .int .i64 l.bt, .int .u16 l.j.ov, .int .u16 l.j.ox, .int .u16 l.j.ol, .int .i64 l.j.oe, .int .i64 l.j.ok, .int .u16 l.j.nv, .int .u16 l.j.nx, .int .u16 l.j.nl, .int .i64 l.j.ne, .int .i64 l.j.nk, .bool l.j.two, .slice p1 l.es.length k1] = VL) (hVM : Value.agg #[.int .i64 m.b, .int .i64 m.bt, .int .u16 m.j.ov, .int .u16 m.j.ox, .int .u16 m.j.ol, .int .i64 m.j.oe, .int .i64 m.j.ok, .int .u16 m.j.nv, .int .u16 m.j.nx, .int .u16 m.j.nl, .int .i64 m.j.ne, .int .i64 m.j.nk, .bool m.j.two, .slice p2 m.es.length k2] = VM) (hVN : Value.agg #[.int .i64 n.b, .int .i64 n.bt, .int .u16 n.j.ov, .int .u16 n.j.ox, .int .u16 n.j.ol, .int .i64 n.j.oe, .int .i64 n.j.ok, .int .u16 n.j.nv, .int .u16 n.j.nx, .int .u16 n.j.nl, .int .i64 n.j.ne, .int .i64 n.j.nk, .bool n.j.two, .slice p3 n.es.length k3] = VN) {W : World} {U : Type} {f : U → World} (hf : ∀ u, Below W.heap.size W (f u)) (hg : ∀ w', Below W.heap.size W w' → ∃ u, w' = f u)
    (kA : ∀ u j, (f u).cell? ⟨A, j, none⟩ = #[.int .i64 l.b, .int .i64 l.bt, .int .u16 l.j.ov, .int .u16 l.j.ox, .int .u16 l.j.ol, .int .i64 l.j.oe, .int .i64 l.j.ok, .int .u16 l.j.nv, .int .u16 l.j.nx, .int .u16 l.j.nl, .int .i64 l.j.ne, .int .i64 l.j.nk, .bool l.j.two, .slice p1 l.es.length k1][j]?) (kA1 : ∀ u j, (f u).cell? ⟨A + 1, j, none⟩ = #[.int .i64 m.b, .int .i64 m.bt, .int .u16 m.j.ov, .int .u16 m.j.ox, .int .u16 m.j.ol, .int .i64 m.j.oe, .int .i64 m.j.ok, .int .u16 m.j.nv, .int .u16 m.j.nx, .int .u16 m.j.nl, .int .i64 m.j.ne, .int .i64 m.j.nk, .bool m.j.two, .slice p2 m.es.length k2][j]?) (kA2 : ∀ u j, (f u).cell? ⟨A + 1 + 1, j, none⟩ = #[.int .i64 n.b, .int .i64 n.bt, .int .u16 n.j.ov, .int .u16 n.j.ox, .int .u16 n.j.ol, .int .i64 n.j.oe, .int .i64 n.j.ok, .int .u16 n.j.nv, .int .u16 n.j.nx, .int .u16 n.j.nl, .int .i64 n.j.ne, .int .i64 n.j.nk, .bool n.j.two, .slice p3 n.es.length k3][j]?)
    (b3 b4 : Bool) (NLM : Hid (∀ u, Calls Try.prog 17 #[VL, VM] (f u) fun r w' => r = .returned (.bool true) ∧ Below (f u).heap.size (f u) w')) (NML : Hid (∀ u, Calls Try.prog 17 #[VM, VL] (f u) fun r w' => r = .returned (.bool true) ∧ Below (f u).heap.size (f u) w')) (NMN : Hid (∀ u, Calls Try.prog 17 #[VM, VN] (f u) fun r w' => r = .returned (.bool b3) ∧ Below (f u).heap.size (f u) w')) (NLN : Hid (∀ u, Calls Try.prog 17 #[VL, VN] (f u) fun r w' => r = .returned (.bool b4) ∧ Below (f u).heap.size (f u) w')) (HTR : Hid (true = true → b3 = true → b4 = true))
    (x0 x1 x2 x3 x4 x5 x6 x10 x11 x12 x13 x15 x16 x17 x18 x19 x20 x21 x22 x23 x24 x25 x26 x27 x28 x29 x30 x31 x32 x33 x34 x35 x36 x37 x38 x39 x40 x41 x42 x43 x44 x45 x46 x47 x48 x49 x50 x51 x52 x53 x54 x55 x56 x57 x58 x59 x60 x61 x62 x63 x64 x65 x66 x67 x68 x69 x70 x71 x72 x73 x74 x75 x76 x77 x78 x79 x80 x81 x82 x83 x84 x85 x86 x87 x88 x89 x90 x91 x92 x93 x94 x95 x96 : Value) (Q : Exit → Act → World → Prop) (u : U) (hQ : Hid (∀ a' u', a'.tmps.getD 6 undef = .bool true → a'.defers = [] → Q .normal a' (f u'))) :
    (pieceOf Try.f4 9).wp Try.prog Q { tmps := #[x0, x1, x2, x3, x4, x5, x6, .pointer (some ⟨A, 0, none⟩), .pointer (some ⟨A + 1, 0, none⟩), .pointer (some ⟨A + 1 + 1, 0, none⟩), x10, x11, x12, x13, .bool true, x15, x16, x17, x18, x19, x20, x21, x22, x23, x24, x25, x26, x27, x28, x29, x30, x31, x32, x33, x34, x35, x36, x37, x38, x39, x40, x41, x42, x43, x44, x45, x46, x47, x48, x49, x50, x51, x52, x53, x54, x55, x56, x57, x58, x59, x60, x61, x62, x63, x64, x65, x66, x67, x68, x69, x70, x71, x72, x73, x74, x75, x76, x77, x78, x79, x80, x81, x82, x83, x84, x85, x86, x87, x88, x89, x90, x91, x92, x93, x94, x95, x96], defers := [] } (f u) := by
  conv in (pieceOf _ _) => whnf
  have hu : undef = Value.tuple #[] := rfl
  (try dsimp only); repeat (first | go_values | go_skip | go_guarded | (refine wpList_skip (by rfl) ?_; simp only [Act.put, List.setIfInBounds_toArray, List.set_cons_zero, List.set_cons_succ]) | go_step | go_upon)
  go_at_call 17; with_reducible refine (NLM.out _).mono ?_; rintro r w' ⟨rfl, hb⟩; obtain ⟨u, rfl⟩ := calm_step hf hg hb; clear hb
  (try dsimp only); repeat (first | go_values | go_skip | go_guarded | (refine wpList_skip (by rfl) ?_; simp only [Act.put, List.setIfInBounds_toArray, List.set_cons_zero, List.set_cons_succ]) | go_step | go_upon)
  go_at_call 17; with_reducible refine (NLM.out _).mono ?_; rintro r w' ⟨rfl, hb⟩; obtain ⟨u, rfl⟩ := calm_step hf hg hb; clear hb
  (try dsimp only); repeat (first | go_values | go_skip | go_guarded | (refine wpList_skip (by rfl) ?_; simp only [Act.put, List.setIfInBounds_toArray, List.set_cons_zero, List.set_cons_succ]) | go_step | go_upon)
  go_at_call 17; with_reducible refine (NML.out _).mono ?_; rintro r w' ⟨rfl, hb⟩; obtain ⟨u, rfl⟩ := calm_step hf hg hb; clear hb
  (try dsimp only); repeat (first | go_values | go_skip | go_guarded | (refine wpList_skip (by rfl) ?_; simp only [Act.put, List.setIfInBounds_toArray, List.set_cons_zero, List.set_cons_succ]) | go_step | go_upon)
  go_at_call 17; with_reducible refine (NLM.out _).mono ?_; rintro r w' ⟨rfl, hb⟩; obtain ⟨u, rfl⟩ := calm_step hf hg hb; clear hb
  (try dsimp only); repeat (first | go_values | go_skip | go_guarded | (refine wpList_skip (by rfl) ?_; simp only [Act.put, List.setIfInBounds_toArray, List.set_cons_zero, List.set_cons_succ]) | go_step | go_upon)
  go_at_call 17; with_reducible refine (NMN.out _).mono ?_; rintro r w' ⟨rfl, hb⟩; obtain ⟨u, rfl⟩ := calm_step hf hg hb; clear hb
  cases b3 with
  | false =>
    go_wp2_with fail
    exact hQ.out _ _ rfl rfl
  | true =>
    obtain rfl : b4 = true := by first | exact HTR.out rfl rfl | exact HTR.out rfl | simpa using HTR.out
    (try dsimp only); repeat (first | go_values | go_skip | go_guarded | (refine wpList_skip (by rfl) ?_; simp only [Act.put, List.setIfInBounds_toArray, List.set_cons_zero, List.set_cons_succ]) | go_step | go_upon)
    go_at_call 17; with_reducible refine (NLN.out _).mono ?_; rintro r w' ⟨rfl, hb⟩; obtain ⟨u, rfl⟩ := calm_step hf hg hb; clear hb
    go_wp2_with fail
    exact hQ.out _ _ rfl rfl
end Go.Proofs.Ytabiccpodnjieaa
