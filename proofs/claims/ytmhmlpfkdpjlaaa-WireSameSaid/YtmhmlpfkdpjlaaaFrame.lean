import Derived.Test.YtmhmlpfkdpjlaaaWireL
import Derived.Test.YtmhmlpfkdpjlaaaWireF
import Derived.WalkKit
import Derived.ProofKit
import Derived.OpenShut
import Derived.SizedLaws
/- Wire: a command that is not too great has not too many bytes. -/
namespace Go.Proofs.Ytmhmlpfkdpjlaaa
open Go.ChangeShapes Go.WideShapes Go.ChangeAt Go.RowKit

theorem encT_le {s : ByteArray} (h : TxF s) : (encT s).length ≤ s.size + 10 := by
  unfold encT TxF at *
  have := (varN_len 10 s.size (by have : 128 ^ 10 = 1180591620717411303424 := (by decide); omega) (by omega)).2
  rw [List.length_append, txW_len]; omega
theorem encSps_le : ∀ {l : List SpX}, (∀ x ∈ l, SpF x) → (l.flatMap encSp).length ≤ szSp l + 20 * l.length
  | [], _ => by simp [szSp]
  | a :: l, h => by
    have h1 := h a (by simp)
    have i1 := encT_le h1.1; have i2 := encT_le h1.2
    have h2 := encSps_le (l := l) (fun x hx => h x (by simp [hx]))
    rw [List.flatMap_cons, List.length_append, List.length_cons]
    unfold encSp szSp at *
    rw [List.length_append, List.map_cons, List.sum_cons]; omega
theorem encWrs_le : ∀ {l : List WrX}, (∀ x ∈ l, WrF x) → (l.flatMap encWr).length ≤ szWr l + 21 * l.length
  | [], _ => by simp [szWr]
  | a :: l, h => by
    have h1 := h a (by simp)
    have i1 := encT_le h1.1; have i2 := encT_le h1.2
    have h2 := encWrs_le (l := l) (fun x hx => h x (by simp [hx]))
    rw [List.flatMap_cons, List.length_append, List.length_cons]
    have i3 : (encF a.r).length = 1 := rfl
    unfold encWr szWr at *
    rw [List.length_append, List.length_append, List.map_cons, List.sum_cons]; omega
theorem ltc_cml {c : CmX} (F : CmF c) (h : LtC c) : CmL c := by
  obtain ⟨h1, h2, h3⟩ := h
  have i1 := encHd_len F
  have i2 := encSps_le F.sp
  have i3 := encWrs_le F.wr
  have i4 := (encN_len (x := (c.sp.length : Int)) ⟨by omega, by omega⟩).2
  have i5 := (encN_len (x := (c.wr.length : Int)) ⟨by omega, by omega⟩).2
  refine ⟨F, ?_, by omega, by omega⟩
  unfold encCm encSps encWrs
  simp only [List.length_append]
  omega
end Go.Proofs.Ytmhmlpfkdpjlaaa
/- The frame of a law's row, whatever the law: from a walk that ends in 'true' and turns nothing of the old memory to the row. -/
namespace Go.Proofs.Ytmhmlpfkdpjlaaa
open Go.ChangeShapes Go.WideShapes Go.ChangeAt Go.RowKit

section
variable {H : Type} {enc : TypeId × Value → H} {P : Program}
/-- All arguments read behind the call as they did before. -/
theorem trodAll_below (hl : laidOutB P = true) {W W' : World} (hb : Below W.heap.size W W') : ∀ (ts : List TypeId) (vs : List Value) (ds : List (DataW H)) (ps : List MemPlace), (ts.all fun t => P.readableRec t && decide (t < P.types.size)) = true →
    DataW.TrodAll enc P W 0 (fun _ => true) true ts vs ds ps → (∀ x ∈ ps, x.block < W.heap.size) → DataW.TrodAll enc P W' 0 (fun b => decide (b < W.heap.size)) true ts vs ds ps
  | [], vs, ds, ps, _, h, _ => by
    obtain ⟨rfl, rfl, rfl⟩ := trodAll_nil h
    exact trodAll_mk0
  | t :: ts, vs, ds, ps, hr, h, hlt => by
    obtain ⟨v, vs', d, ds', p, q, rfl, rfl, rfl, h0, h1⟩ := trodAll_cons h
    simp only [List.all_cons, Bool.and_eq_true, decide_eq_true_eq] at hr
    exact ⟨p, q, Below.trod hl hr.1.1 hr.1.2 h0 hb (fun x hx => hlt x (List.mem_append_left _ hx)), trodAll_below hl hb ts vs' ds' q hr.2 h1 (fun x hx => hlt x (List.mem_append_right _ hx)), rfl⟩
theorem trodAll_length {W : World} {b : Nat} {sp : Nat → Bool} {hd : Bool} : ∀ (ts : List TypeId) (vs : List Value) (ds : List (DataW H)) (ps : List MemPlace), DataW.TrodAll enc P W b sp hd ts vs ds ps → ds.length = ts.length
  | [], vs, ds, ps, h => by obtain ⟨rfl, rfl, rfl⟩ := trodAll_nil h; rfl
  | t :: ts, vs, ds, ps, h => by
    obtain ⟨v, vs', d, ds', p, q, rfl, rfl, rfl, h0, h1⟩ := trodAll_cons h
    simp [trodAll_length ts vs' ds' q h1]

/-- The row's step of a law: nothing is left but the walk. -/
theorem lift_law {C : Checked} {os : Os} {F : FuncId} {fF : Func} {s : ChangeSpec} {tb : TypeId} (own : ownKnob C.prog.godebug = none) (started : os.Started) (noInit : C.prog.inits.idxOf? F = none) (hfn : C.prog.funcs[F]? = some fF)
    (witness : ∃ (w : World) (tape : Tape) (i : Input), w.os = os ∧ (w.forCall tape i).Shaped C.prog ∧ i.vars = [] ∧ Input.okWide C.prog (w.forCall tape i) .any w.heap.size F i ∧
      s.pre6 enc C.prog fF [] false (w.forCall tape i).memory i.args ∧ Assume.holds {} C.prog (lone (Frame.enter C.prog F i.args .normal) [] (w.forCall tape i)))
    (hl : laidOutB C.prog = true) (hr : (fF.params.toList.all fun t => C.prog.readableRec t && decide (t < C.prog.types.size)) = true) (hres : fF.resultTypes = #[tb]) (hb : C.prog.underlying tb = some .bool)
    (hvars : s.vars = []) (hspec : ∀ ds : List (DataW H), ds.length = fF.params.toList.length → s.fn H (ds ++ []) = { results := [.lit (.bool true)], args := ds })
    (walk : ∀ (W : World) (base : Nat) (args : Array Value) (ds : List (DataW H)) (ps : List MemPlace), (∀ (j : Nat) t v, fF.params[j]? = some t → args[j]? = some v → Value.okWide C.prog W .any base t v) →
      DataW.TrodAll enc C.prog W 0 (fun _ => true) true fF.params.toList args.toList ds ps → (∀ x ∈ ps, x.block < W.heap.size) →
      (DataW.weightsEach C.prog (fF.params.toList ++ s.plain.varTypes C.prog) (ds ++ [])).all (· ≤ reachBytes) = true →
      Calls C.prog F args W fun e W' => e = .returned (.bool true) ∧ Below W.heap.size W W') :
    ReturnsInHanded {} C os F .any (s.pre6 enc C.prog fF [] false) (s.post enc C.prog fF false true false false) := by
  refine returnsInHanded_of_change_sized (C := C) own started noInit hfn witness ?_
  intro W base args ds gs before hval hW hcnd hsz _
  have hW' := hW
  obtain ⟨p, q, hA, hV, rfl, _, _⟩ := hW
  rw [hvars] at hV
  obtain ⟨rfl, rfl⟩ := trodVars_none hV
  have hlt : ∀ x ∈ p, x.block < W.heap.size := fun x hx => hW'.lt x (List.mem_append_left _ hx)
  refine (walk W base args ds p hval hA hlt hsz).mono fun e W' ⟨he, hb'⟩ => ?_
  subst he
  have e := hspec ds (trodAll_length _ _ _ _ hA)
  refine ⟨_, rfl, ds, [], p ++ [], [], p, [], hW', ?_, ?_, ?_, hb'.frame _, fun h => by cases h⟩
  · rw [e, hres]; exact trodAll_mk1 (shut_bool hb true)
  · rw [e]; exact trodAll_below hl hb' _ _ _ _ hr hA hlt
  · rw [hvars, e]; rfl

end
end Go.Proofs.Ytmhmlpfkdpjlaaa
