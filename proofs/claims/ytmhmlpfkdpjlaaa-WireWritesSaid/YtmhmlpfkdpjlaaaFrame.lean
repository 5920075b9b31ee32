import Derived.Test.YtmhmlpfkdpjlaaaWireK
import Derived.Test.YtmhmlpfkdpjlaaaWireH
import Derived.Test.YtmhmlpfkdpjlaaaGwJ
import Derived.WalkKit
import Derived.ProofKit
import Derived.OpenShut
import Derived.SizedLaws
/- Wire: a state that is not too great has not too many bytes. -/
namespace Go.Proofs.Ytmhmlpfkdpjlaaa
open Go.ChangeShapes Go.WideShapes Go.ChangeAt Go.RowKit

theorem flat_bound {α : Type} {f : α → List Int} {b : Nat} : ∀ {l : List α}, (∀ a ∈ l, (f a).length ≤ b) → (l.flatMap f).length ≤ l.length * b
  | [], _ => by simp
  | a :: l, h => by
    have h1 := h a (by simp)
    have h2 := flat_bound (l := l) (fun x hx => h x (by simp [hx]))
    rw [List.flatMap_cons, List.length_append, List.length_cons, Nat.add_mul]; omega
theorem encVe_le {x : VeX} (h : VeF x) (hd : x.d.size ≤ 300) : (encVe x).length ≤ 327 := by
  have := encT_le h.d; rw [encVe_len]; omega
theorem encOu_le {x : OuX} (h : OuF x) : (encOu x).length ≤ 57 := by
  have := encY_len h.yn h.yl h.ys h.ya
  unfold encOu; rw [List.length_append, List.length_append, stampB_len, encF_len]; omega
theorem encCe_le {x : CeX} (h : CeF x) (hl : LcX x) : (encCe x).length ≤ 10500 := by
  have i1 := encT_le h.k; have i2 := encT_le h.ld
  have i3 := encY_len h.yn h.yl h.ys h.ya
  have i4 := (encN_len h.hm).2
  have i5 := (encN_len (x := (x.vs.length : Int)) ⟨by omega, by have := hl.n; omega⟩).2
  have i6 : (x.vs.flatMap encVe).length ≤ x.vs.length * 327 := flat_bound fun v hv => by
    obtain ⟨i, hi, rfl⟩ := List.mem_iff_getElem.1 hv
    exact encVe_le (h.vs _ (List.getElem_mem hi)) (hl.d i hi)
  have i7 := hl.n; have i8 := hl.k; have i9 := hl.l
  have i10 : (encLk x).length ≤ 380 := by
    cases hb : x.lk
    · rw [encLk_no hb, encF_len]; omega
    · rw [encLk_yes hb]; simp only [List.length_append, stampB_len, encF_len]; omega
  rw [encCe_len]; omega
theorem encOus_le {l : List OuX} (h : ∀ x ∈ l, OuF x) (hn : l.length < 100) : (encOus l).length ≤ 5800 := by
  have i5 := (encN_len (x := (l.length : Int)) ⟨by omega, by omega⟩).2
  have i6 : (l.flatMap encOu).length ≤ l.length * 57 := flat_bound fun v hv => encOu_le (h v hv)
  unfold encOus; rw [List.length_append]; omega
theorem encPa_le {P : PaL} (h : PaF P) (hl : L8 P.cs) (hr : P.rs.length < 100) (hd : P.ds.length < 100) : ((encPa P.x).length : Int) ≤ 1000000 := by
  have i1 := encPaH_len h
  have i2 : (P.cs.flatMap encCL).length ≤ P.cs.length * 10500 := flat_bound fun c hc => by
    obtain ⟨i, hi, rfl⟩ := List.mem_iff_getElem.1 hc
    exact encCe_le (h.cs _ (List.getElem_mem hi)) (hl.2 i hi)
  have i3 := encOus_le h.rs hr; have i4 := encOus_le h.ds hd
  have i5 := hl.1
  rw [encPaL]; simp only [List.length_append]; omega
theorem l8_lens {L : List CeL} (h : L8 L) : L.length ≤ 1000000 ∧ ∀ x ∈ L, x.1.vs.length ≤ 1000000 := by
  refine ⟨by have := h.1; omega, fun x hx => ?_⟩
  obtain ⟨j, hj, rfl⟩ := List.mem_iff_getElem.1 hx
  have := (h.2 j hj).n; omega
end Go.Proofs.Ytmhmlpfkdpjlaaa
/- The frame of a law's row, whatever the law: from a walk that ends in 'true' and turns nothing of the old memory to the row. -/
namespace Go.Proofs.Ytmhmlpfkdpjlaaa
open Go.ChangeShapes Go.WideShapes Go.ChangeAt Go.RowKit

section
variable {H : Type} {enc : TypeId × Value → H} {P : Program}
/-- All arguments read behind the call as they did before. -/
theorem trodAll_below (hl : laidOutB P = true) {W W' : World} (hb : Below W.heap.size W W') : ∀ (ts : List TypeId) (vs : List Value) (ds : List (DataW H)) (ps : List MemPlace), (ts.all fun t => P.readableRec t && decide (t < P.types.size)) = true →
    DataW.TrodAll enc P W 0 (fun _ => true) true ts vs ds ps → (∀ x ∈ ps, x.block < W.heap.size) → DataW.TrodAll enc P W' 0 (fun b => decide (b < W.heap.size)) true ts vs ds ps
  | [], vs, ds, ps, _, h, _ => by
    obtain ⟨rfl, rfl, rfl⟩ := trodAll_nil h
    exact trodAll_mk0
  | t :: ts, vs, ds, ps, hr, h, hlt => by
    obtain ⟨v, vs', d, ds', p, q, rfl, rfl, rfl, h0, h1⟩ := trodAll_cons h
    simp only [List.all_cons, Bool.and_eq_true, decide_eq_true_eq] at hr
    exact ⟨p, q, Below.trod hl hr.1.1 hr.1.2 h0 hb (fun x hx => hlt x (List.mem_append_left _ hx)), trodAll_below hl hb ts vs' ds' q hr.2 h1 (fun x hx => hlt x (List.mem_append_right _ hx)), rfl⟩
theorem trodAll_length {W : World} {b : Nat} {sp : Nat → Bool} {hd : Bool} : ∀ (ts : List TypeId) (vs : List Value) (ds : List (DataW H)) (ps : List MemPlace), DataW.TrodAll enc P W b sp hd ts vs ds ps → ds.length = ts.length
  | [], vs, ds, ps, h => by obtain ⟨rfl, rfl, rfl⟩ := trodAll_nil h; rfl
  | t :: ts, vs, ds, ps, h => by
    obtain ⟨v, vs', d, ds', p, q, rfl, rfl, rfl, h0, h1⟩ := trodAll_cons h
    simp [trodAll_length ts vs' ds' q h1]

/-- The row's step of a law: nothing is left but the walk. -/
theorem lift_law {C : Checked} {os : Os} {F : FuncId} {fF : Func} {s : ChangeSpec} {tb : TypeId} (own : ownKnob C.prog.godebug = none) (started : os.Started) (noInit : C.prog.inits.idxOf? F = none) (hfn : C.prog.funcs[F]? = some fF)
    (witness : ∃ (w : World) (tape : Tape) (i : Input), w.os = os ∧ (w.forCall tape i).Shaped C.prog ∧ i.vars = [] ∧ Input.okWide C.prog (w.forCall tape i) .any w.heap.size F i ∧
      s.pre6 enc C.prog fF [] false (w.forCall tape i).memory i.args ∧ Assume.holds {} C.prog (lone (Frame.enter C.prog F i.args .normal) [] (w.forCall tape i)))
    (hl : laidOutB C.prog = true) (hr : (fF.params.toList.all fun t => C.prog.readableRec t && decide (t < C.prog.types.size)) = true) (hres : fF.resultTypes = #[tb]) (hb : C.prog.underlying tb = some .bool)
    (hvars : s.vars = []) (hspec : ∀ ds : List (DataW H), ds.length = fF.params.toList.length → s.fn H (ds ++ []) = { results := [.lit (.bool true)], args := ds })
    (walk : ∀ (W : World) (base : Nat) (args : Array Value) (ds : List (DataW H)) (ps : List MemPlace), (∀ (j : Nat) t v, fF.params[j]? = some t → args[j]? = some v → Value.okWide C.prog W .any base t v) →
      DataW.TrodAll enc C.prog W 0 (fun _ => true) true fF.params.toList args.toList ds ps → (∀ x ∈ ps, x.block < W.heap.size) →
      (DataW.weightsEach C.prog (fF.params.toList ++ s.plain.varTypes C.prog) (ds ++ [])).all (· ≤ reachBytes) = true →
      Calls C.prog F args W fun e W' => e = .returned (.bool true) ∧ Below W.heap.size W W') :
    ReturnsInHanded {} C os F .any (s.pre6 enc C.prog fF [] false) (s.post enc C.prog fF false true false false) := by
  refine returnsInHanded_of_change_sized (C := C) own started noInit hfn witness ?_
  intro W base args ds gs before hval hW hcnd hsz _
  have hW' := hW
  obtain ⟨p, q, hA, hV, rfl, _, _⟩ := hW
  rw [hvars] at hV
  obtain ⟨rfl, rfl⟩ := trodVars_none hV
  have hlt : ∀ x ∈ p, x.block < W.heap.size := fun x hx => hW'.lt x (List.mem_append_left _ hx)
  refine (walk W base args ds p hval hA hlt hsz).mono fun e W' ⟨he, hb'⟩ => ?_
  subst he
  have e := hspec ds (trodAll_length _ _ _ _ hA)
  refine ⟨_, rfl, ds, [], p ++ [], [], p, [], hW', ?_, ?_, ?_, hb'.frame _, fun h => by cases h⟩
  · rw [e, hres]; exact trodAll_mk1 (shut_bool hb true)
  · rw [e]; exact trodAll_below hl hb' _ _ _ _ hr hA hlt
  · rw [hvars, e]; rfl

end
end Go.Proofs.Ytmhmlpfkdpjlaaa
