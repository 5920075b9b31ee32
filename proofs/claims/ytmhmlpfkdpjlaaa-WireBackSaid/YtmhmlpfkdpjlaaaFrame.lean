import Derived.Test.YtmhmlpfkdpjlaaaBackA
import Derived.WalkKit
import Derived.ProofKit
import Derived.OpenShut
import Derived.SizedLaws
/- Wire: what is read of what was written. -/
namespace Go.Proofs.Ytmhmlpfkdpjlaaa
open Go.ChangeShapes Go.WideShapes Go.ChangeAt Go.RowKit

theorem tkCmd_self {w w' : World} {c : CmX} {e : Ending} (h : TkCmd w (encCm c) e w') (hv : CmV c) : Below w.heap.size w w' ∧ ∃ (ps pw : Option Addr) (cs cw : Nat), SpsAt w' ps c.sp ∧ WrsAt w' pw c.wr ∧ e = .returned (.tuple #[.agg #[.int .i64 c.k, .int .i64 c.e, .int .i64 c.n, .int .i64 c.h, .int .i64 c.yn, .int .i64 c.yl, .int .i64 c.ys, .int .i64 c.ya, .int .i64 c.sw, .int .i64 c.st, .int .i64 c.w, .bool c.yes, .slice ps c.sp.length cs, .slice pw c.wr.length cw], .int .i64 0]) := by
  obtain ⟨hb, ⟨d, ps, pw, cs, cw, e1, hd, s1, s2, he⟩ | ⟨hn, -⟩⟩ := h
  · obtain rfl := (encCm_rd (x := []) (y := []) hd hv (by simpa using e1)).1
    exact ⟨hb, ps, pw, cs, cw, s1, s2, he⟩
  · exact absurd rfl (hn c hv)
theorem tkCmd_none {w w' : World} {xs : List Int} {e : Ending} (h : TkCmd w xs e w') (hn : ∀ d, CmV d → encCm d ≠ xs) : Below w.heap.size w w' ∧ e = .returned (.tuple #[.agg #[.int .i64 0, .int .i64 0, .int .i64 0, .int .i64 0, .int .i64 0, .int .i64 0, .int .i64 0, .int .i64 0, .int .i64 0, .int .i64 0, .int .i64 0, .bool false, .slice none 0 0, .slice none 0 0], .int .i64 9]) := by
  obtain ⟨hb, ⟨d, ps, pw, cs, cw, e1, hd, -⟩ | ⟨-, he⟩⟩ := h
  · exact absurd e1 (hn d hd)
  · exact ⟨hb, he⟩
theorem ltc_le {c : CmX} (F : CmF c) (h : LtC c) : ((encCm c).length : Int) ≤ 140737488200000 := by
  obtain ⟨h1, h2, h3⟩ := h
  have i1 := encHd_len F
  have i2 := encSps_le F.sp
  have i3 := encWrs_le F.wr
  have i4 := (encN_len (x := (c.sp.length : Int)) ⟨by omega, by omega⟩).2
  have i5 := (encN_len (x := (c.wr.length : Int)) ⟨by omega, by omega⟩).2
  unfold encCm encSps encWrs
  simp only [List.length_append]
  omega
theorem tkPart_self {w w' : World} {p : PaX} {e : Ending} (h : TkPart w (encPa p) e w') (hv : PaV p) : Below w.heap.size w w' ∧ ∃ (Q : PaL) (ap aq as' : Option Addr) (ac ad at' : Nat), Q.x = p ∧ CesAt w' ap Q.cs ∧ OusAt w' aq Q.rs ∧ OusAt w' as' Q.ds ∧ e = .returned (.tuple #[.agg #[.int .i64 Q.e, .int .i64 Q.h, .int .i64 Q.fw, .int .i64 Q.ft, .int .i64 Q.cl, .int .i64 Q.lo, .slice ap Q.cs.length ac, .slice aq Q.rs.length ad, .slice as' Q.ds.length at'], .int .i64 0]) := by
  obtain ⟨hb, ⟨Q, ap, aq, as', ac, ad, at', e1, hd, s1, s2, s3, he⟩ | ⟨hn, -⟩⟩ := h
  · exact ⟨hb, Q, ap, aq, as', ac, ad, at', (encPa_rd (x := []) (y := []) hd hv (by simpa using e1)).1, s1, s2, s3, he⟩
  · exact absurd rfl (hn p hv)
theorem tkPart_none {w w' : World} {xs : List Int} {e : Ending} (h : TkPart w xs e w') (hn : ∀ d, PaV d → encPa d ≠ xs) : Below w.heap.size w w' ∧ e = .returned (.tuple #[.agg #[.int .i64 0, .int .i64 0, .int .i64 0, .int .i64 0, .int .i64 0, .int .i64 0, .slice none 0 0, .slice none 0 0, .slice none 0 0], .int .i64 9]) := by
  obtain ⟨hb, ⟨Q, ap, aq, as', ac, ad, at', e1, hd, -⟩ | ⟨-, he⟩⟩ := h
  · exact absurd e1 (hn _ hd)
  · exact ⟨hb, he⟩
theorem tkJoint_self {w w' : World} {j : JoX} {ys : List Int} {e : Ending} (h : TkJoint w (encJo j ++ ys) e w') (hv : JoF j) : Below w.heap.size w w' ∧ e = .returned (.tuple #[.agg #[.int .u16 j.o.v, .int .u16 j.o.x, .int .u16 j.o.l, .int .i64 j.o.e, .int .i64 j.o.k, .int .u16 j.n.v, .int .u16 j.n.x, .int .u16 j.n.l, .int .i64 j.n.e, .int .i64 j.n.k, .bool j.two], .int .i64 ((encJo j).length : Int), .int .i64 0]) := by
  obtain ⟨hb, ⟨d, zs, e1, hd, he⟩ | ⟨hn, -⟩⟩ := h
  · obtain rfl := (rdJo_ok.cut hd hv e1).1
    exact ⟨hb, he⟩
  · exact absurd rfl (hn j ys hv)
theorem tkJoint_none {w w' : World} {xs : List Int} {e : Ending} (h : TkJoint w xs e w') (hn : ∀ d ys, JoF d → encJo d ++ ys ≠ xs) : Below w.heap.size w w' ∧ e = .returned (.tuple #[.agg #[.int .u16 0, .int .u16 0, .int .u16 0, .int .i64 0, .int .i64 0, .int .u16 0, .int .u16 0, .int .u16 0, .int .i64 0, .int .i64 0, .bool false], .int .i64 0, .int .i64 9]) := by
  obtain ⟨hb, ⟨d, zs, e1, hd, -⟩ | ⟨-, he⟩⟩ := h
  · exact absurd e1 (hn d zs hd)
  · exact ⟨hb, he⟩
theorem PaL.lens {P Q : PaL} (h : Q.x = P.x) : Q.cs.length = P.cs.length ∧ Q.rs.length = P.rs.length ∧ Q.ds.length = P.ds.length ∧ ((∀ x ∈ P.cs, x.1.vs.length ≤ 1000000) → ∀ x ∈ Q.cs, x.1.vs.length ≤ 1000000) := by
  have h1 : Q.cs.map (·.1) = P.cs.map (·.1) := congrArg PaX.cs h
  have h2 : Q.rs = P.rs := congrArg PaX.rs h
  have h3 : Q.ds = P.ds := congrArg PaX.ds h
  refine ⟨by have := congrArg List.length h1; simpa using this, by rw [h2], by rw [h3], fun hp x hx => ?_⟩
  have hm : x.1 ∈ P.cs.map (·.1) := by rw [← h1]; exact List.mem_map_of_mem hx
  obtain ⟨y, hy, e⟩ := List.mem_map.1 hm
  rw [← e]; exact hp y hy
theorem encPa_oct (p : PaX) : Oct (encPa p) := by
  have n := encN_octW
  have one : Oct [(2 : Int)] := fun x hx => by rw [List.mem_singleton] at hx; omega
  have y : ∀ a b c d, Oct (encY a b c d) := fun a b c d => octs_app (octs_app (octs_app (n _) (n _)) (n _)) (n _)
  have ou : ∀ l, Oct (encOus l) := fun l => octs_app (n _) (octs_flat fun a => octs_app (octs_app (y _ _ _ _) (stampB_octF _ _)) (encF_oct _))
  have lk : ∀ x, Oct (encLk x) := fun x => by
    unfold encLk
    refine octs_app (encF_oct _) ?_
    split
    · exact octs_app (octs_app (octs_app (octs_app (y _ _ _ _) (n _)) (stampB_octF _ _)) (encF_oct _)) (encT_oct _)
    · intro z hz; cases hz
  unfold encPa encPaHd
  exact octs_app (octs_app (octs_app (octs_app (octs_app (octs_app (octs_app (octs_app (octs_app one (n _)) (n _)) (stampB_octF _ _)) (n _)) (n _)) (n _)) (octs_flat fun a => octs_app (octs_app (octs_app (encT_oct _) (n _)) (octs_flat fun v => octs_app (octs_app (stampB_octF _ _) (encF_oct _)) (encT_oct _))) (lk _))) (ou _)) (ou _)
theorem encJo_oct (j : JoX) : Oct (encJo j) := by
  unfold encJo
  exact octs_app (octs_flat fun c => octs_app (octs_app (octs_flat fun x => bePre_bd _ _ _) (encN_octW _)) (encN_octW _)) (encF_oct _)
theorem encJo_le {j : JoX} (h : JoF j) : 1 ≤ (encJo j).length ∧ (encJo j).length ≤ 53 := by
  have := encCf_len h.o; have := encCf_len h.n
  unfold encJo
  simp only [List.flatMap_cons, List.flatMap_nil, List.length_append, encF_len, List.length_nil]; omega
theorem own_emptyW (w : World) : (w.alloc (.cells #[] 5)).ownsRow w.heap.size 5 1 (.slice (some ⟨w.heap.size, 0, none⟩) 0 0) ([] : List Int).length (byt []) :=
  ⟨rfl, .inr ⟨w.heap.size, 0, #[], rfl, Nat.le_refl _, heap_last w _, Nat.le_refl _, Nat.zero_le _, rfl, rfl⟩⟩
theorem eql_jo_yes (a0 a1 a2 a3 a4 a5 a6 a7 a8 a9 : Int) (b : Bool) (w : World) : (binOp .eql 45 (.agg #[.int .u16 a0, .int .u16 a1, .int .u16 a2, .int .i64 a3, .int .i64 a4, .int .u16 a5, .int .u16 a6, .int .u16 a7, .int .i64 a8, .int .i64 a9, .bool b]) (.agg #[.int .u16 a0, .int .u16 a1, .int .u16 a2, .int .i64 a3, .int .i64 a4, .int .u16 a5, .int .u16 a6, .int .u16 a7, .int .i64 a8, .int .i64 a9, .bool b])).run Try.prog w = .ok (.bool true) w := by
  simp [go_sem]
end Go.Proofs.Ytmhmlpfkdpjlaaa
/- The frame of a law's row, whatever the law: from a walk that ends in 'true' and turns nothing of the old memory to the row. -/
namespace Go.Proofs.Ytmhmlpfkdpjlaaa
open Go.ChangeShapes Go.WideShapes Go.ChangeAt Go.RowKit

section
variable {H : Type} {enc : TypeId × Value → H} {P : Program}
/-- All arguments read behind the call as they did before. -/
theorem trodAll_below (hl : laidOutB P = true) {W W' : World} (hb : Below W.heap.size W W') : ∀ (ts : List TypeId) (vs : List Value) (ds : List (DataW H)) (ps : List MemPlace), (ts.all fun t => P.readableRec t && decide (t < P.types.size)) = true →
    DataW.TrodAll enc P W 0 (fun _ => true) true ts vs ds ps → (∀ x ∈ ps, x.block < W.heap.size) → DataW.TrodAll enc P W' 0 (fun b => decide (b < W.heap.size)) true ts vs ds ps
  | [], vs, ds, ps, _, h, _ => by
    obtain ⟨rfl, rfl, rfl⟩ := trodAll_nil h
    exact trodAll_mk0
  | t :: ts, vs, ds, ps, hr, h, hlt => by
    obtain ⟨v, vs', d, ds', p, q, rfl, rfl, rfl, h0, h1⟩ := trodAll_cons h
    simp only [List.all_cons, Bool.and_eq_true, decide_eq_true_eq] at hr
    exact ⟨p, q, Below.trod hl hr.1.1 hr.1.2 h0 hb (fun x hx => hlt x (List.mem_append_left _ hx)), trodAll_below hl hb ts vs' ds' q hr.2 h1 (fun x hx => hlt x (List.mem_append_right _ hx)), rfl⟩
theorem trodAll_length {W : World} {b : Nat} {sp : Nat → Bool} {hd : Bool} : ∀ (ts : List TypeId) (vs : List Value) (ds : List (DataW H)) (ps : List MemPlace), DataW.TrodAll enc P W b sp hd ts vs ds ps → ds.length = ts.length
  | [], vs, ds, ps, h => by obtain ⟨rfl, rfl, rfl⟩ := trodAll_nil h; rfl
  | t :: ts, vs, ds, ps, h => by
    obtain ⟨v, vs', d, ds', p, q, rfl, rfl, rfl, h0, h1⟩ := trodAll_cons h
    simp [trodAll_length ts vs' ds' q h1]

/-- The row's step of a law: nothing is left but the walk. -/
theorem lift_law {C : Checked} {os : Os} {F : FuncId} {fF : Func} {s : ChangeSpec} {tb : TypeId} (own : ownKnob C.prog.godebug = none) (started : os.Started) (noInit : C.prog.inits.idxOf? F = none) (hfn : C.prog.funcs[F]? = some fF)
    (witness : ∃ (w : World) (tape : Tape) (i : Input), w.os = os ∧ (w.forCall tape i).Shaped C.prog ∧ i.vars = [] ∧ Input.okWide C.prog (w.forCall tape i) .any w.heap.size F i ∧
      s.pre6 enc C.prog fF [] false (w.forCall tape i).memory i.args ∧ Assume.holds {} C.prog (lone (Frame.enter C.prog F i.args .normal) [] (w.forCall tape i)))
    (hl : laidOutB C.prog = true) (hr : (fF.params.toList.all fun t => C.prog.readableRec t && decide (t < C.prog.types.size)) = true) (hres : fF.resultTypes = #[tb]) (hb : C.prog.underlying tb = some .bool)
    (hvars : s.vars = []) (hspec : ∀ ds : List (DataW H), ds.length = fF.params.toList.length → s.fn H (ds ++ []) = { results := [.lit (.bool true)], args := ds })
    (walk : ∀ (W : World) (base : Nat) (args : Array Value) (ds : List (DataW H)) (ps : List MemPlace), (∀ (j : Nat) t v, fF.params[j]? = some t → args[j]? = some v → Value.okWide C.prog W .any base t v) →
      DataW.TrodAll enc C.prog W 0 (fun _ => true) true fF.params.toList args.toList ds ps → (∀ x ∈ ps, x.block < W.heap.size) →
      (DataW.weightsEach C.prog (fF.params.toList ++ s.plain.varTypes C.prog) (ds ++ [])).all (· ≤ reachBytes) = true →
      Calls C.prog F args W fun e W' => e = .returned (.bool true) ∧ Below W.heap.size W W') :
    ReturnsInHanded {} C os F .any (s.pre6 enc C.prog fF [] false) (s.post enc C.prog fF false true false false) := by
  refine returnsInHanded_of_change_sized (C := C) own started noInit hfn witness ?_
  intro W base args ds gs before hval hW hcnd hsz _
  have hW' := hW
  obtain ⟨p, q, hA, hV, rfl, _, _⟩ := hW
  rw [hvars] at hV
  obtain ⟨rfl, rfl⟩ := trodVars_none hV
  have hlt : ∀ x ∈ p, x.block < W.heap.size := fun x hx => hW'.lt x (List.mem_append_left _ hx)
  refine (walk W base args ds p hval hA hlt hsz).mono fun e W' ⟨he, hb'⟩ => ?_
  subst he
  have e := hspec ds (trodAll_length _ _ _ _ hA)
  refine ⟨_, rfl, ds, [], p ++ [], [], p, [], hW', ?_, ?_, ?_, hb'.frame _, fun h => by cases h⟩
  · rw [e, hres]; exact trodAll_mk1 (shut_bool hb true)
  · rw [e]; exact trodAll_below hl hb' _ _ _ _ hr hA hlt
  · rw [hvars, e]; rfl

end
end Go.Proofs.Ytmhmlpfkdpjlaaa
