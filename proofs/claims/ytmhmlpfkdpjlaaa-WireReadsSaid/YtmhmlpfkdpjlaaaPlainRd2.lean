import Derived.Test.YtmhmlpfkdpjlaaaGwD
import Derived.Test.YtmhmlpfkdpjlaaaRdB
/- Wire: a joint's bytes: package wire's and the document's. -/
namespace Go.Proofs.Ytmhmlpfkdpjlaaa
open Go.ChangeShapes Go.WideShapes Go.ChangeAt Go.RowKit

structure CfX where
  v : Int
  x : Int
  l : Int
  e : Int
  k : Int
deriving DecidableEq
structure JoX where
  o : CfX
  n : CfX
  two : Bool
deriving DecidableEq
def In16 (n : Int) : Prop := 0 ≤ n ∧ n ≤ 65535
structure CfF (c : CfX) : Prop where
  v : In16 c.v
  x : In16 c.x
  l : In16 c.l
  e : In64 c.e
  k : In64 c.k
structure JoF (j : JoX) : Prop where
  o : CfF j.o
  n : CfF j.n
def put2 (x : Int) : List Int := bePre x 2 2
theorem put2_len (x : Int) : (put2 x).length = 2 := bePre_len x 2 2
def encCf (c : CfX) : List Int := [c.v, c.x, c.l].flatMap put2 ++ encN c.e ++ encN c.k
def encJo (j : JoX) : List Int := [j.o, j.n].flatMap encCf ++ encF j.two
end Go.Proofs.Ytmhmlpfkdpjlaaa
/- Wire: readers, the plain law: cells, states, commands, joints. -/
namespace Go.Proofs.Ytmhmlpfkdpjlaaa

/-- A thing that is there if a truth says so. -/
def rdOpt {α : Type} (f : List Int → Bool → α × List Int × Bool) (xs : List Int) (b : Bool) : Option α × List Int × Bool :=
  if (rdFw xs b).1 then (some (f (rdFw xs b).2.1 (rdFw xs b).2.2).1, (f (rdFw xs b).2.1 (rdFw xs b).2.2).2.1, (f (rdFw xs b).2.1 (rdFw xs b).2.2).2.2) else (none, (rdFw xs b).2.1, (rdFw xs b).2.2)
def encOpt {α : Type} (e : α → List Int) : Option α → List Int
  | none => encF false
  | some a => encF true ++ e a
theorem rdOpt_ok {α : Type} {f : List Int → Bool → α × List Int × Bool} {e : α → List Int} {k : α → Prop} (hf : RdOk f e k) : RdOk (rdOpt f) (encOpt e) (fun o => ∀ a, o = some a → k a) where
  sound xs o ys ho h := by
    unfold rdOpt at h
    obtain ⟨⟨t, zs, b⟩, hr⟩ : ∃ r, rdFw xs false = r := ⟨_, rfl⟩
    have o2 : Oct zs := by have := rdFw_ok.oct xs false ho; rw [hr] at this; exact this
    rw [hr] at h
    cases t with
    | true =>
      simp only [if_true, Prod.mk.injEq] at h
      obtain ⟨rfl, h2, h3⟩ := h
      have hb : b = false := by
        cases b with
        | false => rfl
        | true => rw [hf.sticky] at h3; cases h3
      subst hb
      obtain ⟨-, e1⟩ := rdFw_ok.sound xs true zs ho hr
      obtain ⟨o1, e2⟩ := hf.sound zs (f zs false).1 ys o2 (trip h2 h3)
      refine ⟨fun a ha => by cases ha; exact o1, ?_⟩
      show xs = (encF true ++ _) ++ ys
      rw [List.append_assoc, ← e2]; exact e1
    | false =>
      simp only [Bool.false_eq_true, if_false, Prod.mk.injEq] at h
      obtain ⟨rfl, rfl, rfl⟩ := h
      obtain ⟨-, e1⟩ := rdFw_ok.sound xs false zs ho hr
      exact ⟨fun a ha => (by cases ha), e1⟩
  compl o r h := by
    unfold rdOpt
    cases o with
    | none =>
      show _ = _
      simp only [encOpt, rdFw_enc]
      simp
    | some a =>
      simp only [encOpt, List.append_assoc, rdFw_enc, if_true, hf.compl a r (h a rfl)]
  sticky xs := by
    unfold rdOpt
    split
    · rw [rdFw_ok.sticky]; exact hf.sticky _
    · exact rdFw_ok.sticky xs
  oct xs b ho := by
    unfold rdOpt
    split
    · exact hf.oct _ _ (rdFw_ok.oct xs b ho)
    · exact rdFw_ok.oct xs b ho
theorem rdL_len {α : Type} {f : List Int → Bool → α × List Int × Bool} (hf : ∀ ys b, (f ys b).2.1.length ≤ ys.length) (xs : List Int) (b : Bool) : (rdL f xs b).2.1.length ≤ xs.length := by
  unfold rdL
  split
  · exact rdNw_len xs b
  · refine Nat.le_trans ?_ (rdNw_len xs b)
    generalize (rdNw xs b).1.toNat = n
    generalize (rdNw xs b).2.1 = zs
    generalize (rdNw xs b).2.2 = c
    induction n with
    | zero => exact Nat.le_refl _
    | succ n ih =>
      rw [itF]
      split
      · exact ih
      · exact Nat.le_trans (hf _ _) ih
abbrev LkT := (Int × Int × Int × Int) × Int × (Int × Int) × Bool × ByteArray
def rdLock : List Int → Bool → LkT × List Int × Bool := rd2 rdYw (rd2 rdNw (rd2 rdSw (rd2 rdFw rdTw)))
def mkCe (p : ByteArray × List VeX × Option LkT) : CeX :=
  match p.2.2 with
  | none => ⟨p.1, p.2.1, false, 0, 0, 0, 0, 0, 0, 0, false, ⟨#[]⟩⟩
  | some l => ⟨p.1, p.2.1, true, l.1.1, l.1.2.1, l.1.2.2.1, l.1.2.2.2, l.2.1, l.2.2.1.1, l.2.2.1.2, l.2.2.2.1, l.2.2.2.2⟩
def unCe (x : CeX) : ByteArray × List VeX × Option LkT := (x.k, x.vs, if x.lk then some ((x.yn, x.yl, x.ys, x.ya), x.hm, (x.sw, x.st), x.lr, x.ld) else none)
def rdCe : List Int → Bool → CeX × List Int × Bool := rdMap (rd2 rdTw (rd2 (rdL rdVe) (rdOpt rdLock))) mkCe
def LkV (x : CeX) : Prop := (In64 x.yn ∧ In64 x.yl ∧ In64 x.ys ∧ In64 x.ya) ∧ In64 x.hm ∧ (In64 x.sw ∧ In64 x.st) ∧ True ∧ TxV x.ld
/-- A cell that bytes may say: without a lock, its lock is zero. -/
structure CeV (x : CeX) : Prop where
  k : TxV x.k
  n : x.vs.length ≤ 65536
  vs : ∀ v ∈ x.vs, VeV v
  l : x.lk = true → LkV x
  z : x.lk = false → x = ⟨x.k, x.vs, false, 0, 0, 0, 0, 0, 0, 0, false, ⟨#[]⟩⟩
theorem rdCe_ok : RdOk rdCe encCe CeV := by
  have h := rd2_ok rdTw_ok (rd2_ok (rdL_ok rdVe_ok) (rdOpt_ok (rd2_ok rdYw_ok (rd2_ok rdNw_ok (rd2_ok rdSw_ok (rd2_ok rdFw_ok rdTw_ok))))))
  have he : ∀ p : ByteArray × List VeX × Option LkT, encCe (mkCe p) = encT p.1 ++ ((encN p.2.1.length ++ p.2.1.flatMap encVe) ++ encOpt (fun l : LkT => encY l.1.1 l.1.2.1 l.1.2.2.1 l.1.2.2.2 ++ (encN l.2.1 ++ (stampB l.2.2.1.1 l.2.2.1.2 ++ (encF l.2.2.2.1 ++ encT l.2.2.2.2)))) p.2.2) := by
    rintro ⟨k, vs, o⟩
    cases o with
    | none => simp [mkCe, encCe, encLk, encOpt]
    | some l => simp [mkCe, encCe, encLk, encOpt]
  have hk : ∀ p : ByteArray × List VeX × Option LkT, CeV (mkCe p) ↔ (TxV p.1 ∧ (p.2.1.length ≤ 65536 ∧ ∀ a ∈ p.2.1, VeV a) ∧ ∀ l : LkT, p.2.2 = some l → (In64 l.1.1 ∧ In64 l.1.2.1 ∧ In64 l.1.2.2.1 ∧ In64 l.1.2.2.2) ∧ In64 l.2.1 ∧ (In64 l.2.2.1.1 ∧ In64 l.2.2.1.2) ∧ True ∧ TxV l.2.2.2.2) := by
    rintro ⟨k, vs, o⟩
    cases o with
    | none => exact ⟨fun c => ⟨c.k, ⟨c.n, c.vs⟩, (fun l h => by cases h)⟩, fun c => ⟨c.1, c.2.1.1, c.2.1.2, (fun h => by cases h), fun _ => rfl⟩⟩
    | some l => exact ⟨fun c => ⟨c.k, ⟨c.n, c.vs⟩, (fun l' h => by cases h; exact c.l rfl)⟩, fun c => ⟨c.1, c.2.1.1, c.2.1.2, (fun _ => c.2.2 l rfl), (fun h => by cases h)⟩⟩
  refine ⟨fun xs a ys ho hh => ?_, fun a r ha => ?_, fun xs => h.sticky xs, fun xs b ho => h.oct xs b ho⟩
  · unfold rdCe rdMap at hh
    simp only [Prod.mk.injEq] at hh
    obtain ⟨rfl, h2, h3⟩ := hh
    obtain ⟨o, e1⟩ := h.sound xs (rd2 rdTw (rd2 (rdL rdVe) (rdOpt rdLock)) xs false).1 ys ho (trip h2 h3)
    exact ⟨(hk _).2 o, by rw [he]; exact e1⟩
  · have hu : mkCe (unCe a) = a := by
      unfold unCe mkCe
      cases hb : a.lk with
      | true => simp only [if_true]; rw [← hb]
      | false => exact (ha.z hb).symm
    unfold rdCe rdMap
    have e1 : encCe a = encCe (mkCe (unCe a)) := by rw [hu]
    have k1 := (hk (unCe a)).1 (by rw [hu]; exact ha)
    have hc := h.compl (unCe a) r k1
    rw [e1, he]
    have hc' : rd2 rdTw (rd2 (rdL rdVe) (rdOpt rdLock)) (encT (unCe a).1 ++ ((encN (unCe a).2.1.length ++ (unCe a).2.1.flatMap encVe) ++ encOpt (fun l : LkT => encY l.1.1 l.1.2.1 l.1.2.2.1 l.1.2.2.2 ++ (encN l.2.1 ++ (stampB l.2.2.1.1 l.2.2.1.2 ++ (encF l.2.2.2.1 ++ encT l.2.2.2.2)))) (unCe a).2.2) ++ r) false = (unCe a, r, false) := hc
    rw [hc', hu]
abbrev RdLe {α : Type} (f : List Int → Bool → α × List Int × Bool) : Prop := ∀ xs b, (f xs b).2.1.length ≤ xs.length
theorem rd2_len {α β : Type} {f : List Int → Bool → α × List Int × Bool} {g : List Int → Bool → β × List Int × Bool} (hf : RdLe f) (hg : RdLe g) : RdLe (rd2 f g) := fun xs b => Nat.le_trans (hg _ _) (hf xs b)
theorem rdOpt_len {α : Type} {f : List Int → Bool → α × List Int × Bool} (hf : RdLe f) : RdLe (rdOpt f) := fun xs b => by
  unfold rdOpt
  split
  · exact Nat.le_trans (hf _ _) (rdFw_len xs b)
  · exact rdFw_len xs b
theorem rdCe_len : RdLe rdCe := fun xs b => rd2_len rdTw_len (rd2_len (rdL_len rdVe_len) (rdOpt_len (rd2_len rdYw_len (rd2_len rdNw_len (rd2_len rdSw_len (rd2_len rdFw_len rdTw_len)))))) xs b
/-- A command's fields, behind its first byte. -/
abbrev CmT := Int × Int × Int × Int × (Int × Int × Int × Int) × (Int × Int) × Int × Bool × List SpX × List WrX
def rdCmT : List Int → Bool → CmT × List Int × Bool := rd2 rdNw (rd2 rdNw (rd2 rdNw (rd2 rdNw (rd2 rdYw (rd2 rdSw (rd2 rdNw (rd2 rdFw (rd2 (rdL rdSp) (rdL rdWr)))))))))
def mkCm (p : CmT) : CmX := ⟨p.1, p.2.1, p.2.2.1, p.2.2.2.1, p.2.2.2.2.1.1, p.2.2.2.2.1.2.1, p.2.2.2.2.1.2.2.1, p.2.2.2.2.1.2.2.2, p.2.2.2.2.2.1.1, p.2.2.2.2.2.1.2, p.2.2.2.2.2.2.1, p.2.2.2.2.2.2.2.1, p.2.2.2.2.2.2.2.2.1, p.2.2.2.2.2.2.2.2.2⟩
def unCm (c : CmX) : CmT := (c.k, c.e, c.n, c.h, (c.yn, c.yl, c.ys, c.ya), (c.sw, c.st), c.w, c.yes, c.sp, c.wr)
def rdCm : List Int → Bool → CmX × List Int × Bool := rdMap rdCmT mkCm
def encCmB (c : CmX) : List Int := encN c.k ++ (encN c.e ++ (encN c.n ++ (encN c.h ++ (encY c.yn c.yl c.ys c.ya ++ (stampB c.sw c.st ++ (encN c.w ++ (encF c.yes ++ (encSps c.sp ++ encWrs c.wr))))))))
theorem encCm_body (c : CmX) : encCm c = 1 :: encCmB c := by simp [encCm, encHd, encCmB]
/-- A command that bytes may say. -/
def CmV (c : CmX) : Prop := In64 c.k ∧ In64 c.e ∧ In64 c.n ∧ In64 c.h ∧ (In64 c.yn ∧ In64 c.yl ∧ In64 c.ys ∧ In64 c.ya) ∧ (In64 c.sw ∧ In64 c.st) ∧ In64 c.w ∧ True ∧ (c.sp.length ≤ 65536 ∧ ∀ s ∈ c.sp, SpV s) ∧ (c.wr.length ≤ 65536 ∧ ∀ s ∈ c.wr, WrV s)
theorem rdCm_ok : RdOk rdCm encCmB CmV :=
  rdMap_ok (rd2_ok rdNw_ok (rd2_ok rdNw_ok (rd2_ok rdNw_ok (rd2_ok rdNw_ok (rd2_ok rdYw_ok (rd2_ok rdSw_ok (rd2_ok rdNw_ok (rd2_ok rdFw_ok (rd2_ok (rdL_ok rdSp_ok) (rdL_ok rdWr_ok)))))))))) unCm (fun _ => rfl) (fun _ => rfl) (fun _ => Iff.rfl)
/-- A state's. -/
abbrev PaT := Int × Int × (Int × Int) × Int × Int × List CeX × List OuX × List OuX
def rdPaT : List Int → Bool → PaT × List Int × Bool := rd2 rdNw (rd2 rdNw (rd2 rdSw (rd2 rdNw (rd2 rdNw (rd2 (rdL rdCe) (rd2 (rdL rdOu) (rdL rdOu)))))))
def mkPa (p : PaT) : PaX := ⟨p.1, p.2.1, p.2.2.1.1, p.2.2.1.2, p.2.2.2.1, p.2.2.2.2.1, p.2.2.2.2.2.1, p.2.2.2.2.2.2.1, p.2.2.2.2.2.2.2⟩
def unPa (p : PaX) : PaT := (p.e, p.h, (p.fw, p.ft), p.cl, p.lo, p.cs, p.rs, p.ds)
def rdPa : List Int → Bool → PaX × List Int × Bool := rdMap rdPaT mkPa
def encPaB (p : PaX) : List Int := encN p.e ++ (encN p.h ++ (stampB p.fw p.ft ++ (encN p.cl ++ (encN p.lo ++ ((encN p.cs.length ++ p.cs.flatMap encCe) ++ (encOus p.rs ++ encOus p.ds))))))
theorem encPa_body (p : PaX) : encPa p = 2 :: encPaB p := by simp [encPa, encPaHd, encPaB]
def PaV (p : PaX) : Prop := In64 p.e ∧ In64 p.h ∧ (In64 p.fw ∧ In64 p.ft) ∧ In64 p.cl ∧ In64 p.lo ∧ (p.cs.length ≤ 65536 ∧ ∀ c ∈ p.cs, CeV c) ∧ (p.rs.length ≤ 65536 ∧ ∀ c ∈ p.rs, OuV c) ∧ (p.ds.length ≤ 65536 ∧ ∀ c ∈ p.ds, OuV c)
theorem rdPa_ok : RdOk rdPa encPaB PaV :=
  rdMap_ok (rd2_ok rdNw_ok (rd2_ok rdNw_ok (rd2_ok rdSw_ok (rd2_ok rdNw_ok (rd2_ok rdNw_ok (rd2_ok (rdL_ok rdCe_ok) (rd2_ok (rdL_ok rdOu_ok) (rdL_ok rdOu_ok)))))))) unPa (fun _ => rfl) (fun _ => rfl) (fun _ => Iff.rfl)
/-- Two bytes. -/
def rd16 (xs : List Int) (bad : Bool) : Int × List Int × Bool := (if 2 ≤ xs.length then beVal (xs.take 2) else 0, xs.drop 2, bad || decide (xs.length < 2))
theorem rd16_ok : RdOk rd16 put2 In16 where
  sound xs a ys ho h := by
    unfold rd16 at h
    simp only [Prod.mk.injEq, Bool.false_or, decide_eq_false_iff_not] at h
    obtain ⟨h1, h2, h3⟩ := h
    rw [if_pos (by omega)] at h1
    have hl : (xs.take 2).length = 2 := by rw [List.length_take]; omega
    have hb := beVal_bound 2 _ hl (ho.take 2)
    have p := pre_val hl (ho.take 2)
    have e2 : (256 : Int) ^ 2 = 65536 := by decide
    refine ⟨⟨by omega, by omega⟩, ?_⟩
    unfold put2
    rw [← h1, ← h2]
    have p' : bePre (beVal (xs.take 2)) 2 2 = xs.take 2 := p
    rw [p', List.take_append_drop]
  compl a r h := by
    unfold rd16
    have hl : (put2 a ++ r).length = 2 + r.length := by rw [List.length_append, put2_len]
    have ht : (put2 a ++ r).take 2 = put2 a := List.take_left' (put2_len a)
    have hd : (put2 a ++ r).drop 2 = r := List.drop_left' (put2_len a)
    rw [if_pos (by omega), ht, hd]
    have hv : beVal (put2 a) = a := by
      have := beVal_pre a 2 2 (Nat.le_refl _) h.1 (by have := h.2; show a < 2 ^ 16; omega)
      unfold put2
      simpa using this
    rw [hv]
    simp only [Prod.mk.injEq, Bool.false_or, decide_eq_false_iff_not, true_and]
    omega
  sticky xs := by simp [rd16]
  oct xs b ho := ho.drop _
theorem rd16_len (xs : List Int) (b : Bool) : (rd16 xs b).2.1.length ≤ xs.length := by unfold rd16; rw [List.length_drop]; omega
def rdCf : List Int → Bool → CfX × List Int × Bool := rdMap (rd2 rd16 (rd2 rd16 (rd2 rd16 (rd2 rdNw rdNw)))) fun p => ⟨p.1, p.2.1, p.2.2.1, p.2.2.2.1, p.2.2.2.2⟩
theorem rdCf_ok : RdOk rdCf encCf CfF :=
  rdMap_ok (rd2_ok rd16_ok (rd2_ok rd16_ok (rd2_ok rd16_ok (rd2_ok rdNw_ok rdNw_ok)))) (fun c => (c.v, c.x, c.l, c.e, c.k)) (fun _ => rfl) (fun a => by simp [encCf]) (fun _ => ⟨fun c => ⟨c.v, c.x, c.l, c.e, c.k⟩, fun c => ⟨c.1, c.2.1, c.2.2.1, c.2.2.2.1, c.2.2.2.2⟩⟩)
def rdJo : List Int → Bool → JoX × List Int × Bool := rdMap (rd2 rdCf (rd2 rdCf rdFw)) fun p => ⟨p.1, p.2.1, p.2.2⟩
theorem rdJo_ok : RdOk rdJo encJo JoF :=
  rdMap_ok (rd2_ok rdCf_ok (rd2_ok rdCf_ok rdFw_ok)) (fun j => (j.o, j.n, j.two)) (fun _ => rfl) (fun a => by simp [encJo]) (fun _ => ⟨fun c => ⟨c.o, c.n, trivial⟩, fun c => ⟨c.1, c.2.1⟩⟩)
theorem rdCf_len : RdLe rdCf := fun xs b => rd2_len rd16_len (rd2_len rd16_len (rd2_len rd16_len (rd2_len rdNw_len rdNw_len))) xs b
end Go.Proofs.Ytmhmlpfkdpjlaaa
