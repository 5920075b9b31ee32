/- Wire: the reference's reader, the plain law: it stays where it is when it cannot go on. -/
import Derived.Test.YtmhmlpfkdpjlaaaPlainRd2
namespace Go.Proofs.Ytmhmlpfkdpjlaaa

/-- A reader that tells the same wherever one of the two can read is as good. -/
theorem RdOk.like {α : Type} {f g : List Int → Bool → α × List Int × Bool} {e : α → List Int} {k : α → Prop} (hf : RdOk f e k) (h1 : ∀ xs, (g xs false).2.2 = false → g xs false = f xs false) (h2 : ∀ xs, (f xs false).2.2 = false → g xs false = f xs false) (hs : ∀ xs, (g xs true).2.2 = true) (ho : ∀ xs b, Oct xs → Oct (g xs b).2.1) : RdOk g e k where
  sound xs a ys hx h := hf.sound xs a ys hx (by rw [← h1 xs (by rw [h])]; exact h)
  compl a r ha := by
    have h := hf.compl a r ha
    rw [h2 _ (by rw [h])]; exact h
  sticky := hs
  oct := ho
/-- It stays where it is when it cannot go on. -/
def stick {α : Type} (f : List Int → Bool → α × List Int × Bool) (a0 : α) (xs : List Int) (b : Bool) : α × List Int × Bool := if (f xs b).2.2 = true then (a0, xs, true) else f xs b
theorem stick_bad {α : Type} {f : List Int → Bool → α × List Int × Bool} {a0 : α} {xs : List Int} {b : Bool} (h : (f xs b).2.2 = true) : stick f a0 xs b = (a0, xs, true) := if_pos h
theorem stick_good {α : Type} {f : List Int → Bool → α × List Int × Bool} {a0 : α} {xs : List Int} {b : Bool} (h : (f xs b).2.2 = false) : stick f a0 xs b = f xs b := if_neg (by rw [h]; decide)
theorem stick_eq {α : Type} {f : List Int → Bool → α × List Int × Bool} {a0 : α} {xs : List Int} {b : Bool} (h : (stick f a0 xs b).2.2 = false) : stick f a0 xs b = f xs b := by
  cases hb : (f xs b).2.2 with
  | false => exact stick_good hb
  | true => rw [stick_bad hb] at h; cases h
theorem stick_ok {α : Type} {f : List Int → Bool → α × List Int × Bool} {e : α → List Int} {k : α → Prop} (hf : RdOk f e k) (a0 : α) : RdOk (stick f a0) e k :=
  hf.like (fun _ h => stick_eq h) (fun _ h => stick_good h) (fun xs => by rw [stick_bad (hf.sticky xs)]) (fun xs b ho => by
    cases hb : (f xs b).2.2 with
    | false => rw [stick_good hb]; exact hf.oct xs b ho
    | true => rw [stick_bad hb]; exact ho)
theorem stick_len {α : Type} {f : List Int → Bool → α × List Int × Bool} (hf : RdLe f) (a0 : α) : RdLe (stick f a0) := fun xs b => by
  cases hb : (f xs b).2.2 with
  | false => rw [stick_good hb]; exact hf xs b
  | true => rw [stick_bad hb]; exact Nat.le_refl _
/-- So many bytes. -/
def rfBy (n : Nat) (xs : List Int) (b : Bool) : List Int × List Int × Bool := if b = true ∨ xs.length < n then (List.replicate n 0, xs, true) else (xs.take n, xs.drop n, false)
theorem rfBy_len (n : Nat) : RdLe (rfBy n) := fun xs b => by
  unfold rfBy
  split
  · exact Nat.le_refl _
  · simp only [List.length_drop]; omega
theorem rfBy_oct (n : Nat) (xs : List Int) (b : Bool) (h : Oct xs) : Oct (rfBy n xs b).2.1 ∧ Oct (rfBy n xs b).1 ∧ (rfBy n xs b).1.length = n := by
  unfold rfBy
  split
  · exact ⟨h, fun x hx => by have := List.eq_of_mem_replicate hx; omega, List.length_replicate⟩
  · exact ⟨h.drop _, h.take _, by rw [List.length_take]; omega⟩
def rfN : List Int → Bool → Int × List Int × Bool := stick rdNw 0
theorem rfN_ok : RdOk rfN encN In64 := stick_ok rdNw_ok 0
theorem rfN_len : RdLe rfN := stick_len rdNw_len 0
def rfT : List Int → Bool → ByteArray × List Int × Bool := stick rdTw ⟨#[]⟩
theorem rfT_ok : RdOk rfT encT TxV := stick_ok rdTw_ok _
/-- A byte: the first of one. -/
def rfB (xs : List Int) (b : Bool) : Int × List Int × Bool := ((rfBy 1 xs b).1.headD 0, (rfBy 1 xs b).2.1, (rfBy 1 xs b).2.2)
theorem rfB_cons (x : Int) (t : List Int) : rfB (x :: t) false = (x, t, false) := by simp [rfB, rfBy]
theorem rfB_ok : RdOk rfB (fun x => [x]) (fun x => 0 ≤ x ∧ x ≤ 255) :=
  rdBw_ok.like (fun xs h => by cases xs with | nil => simp [rfB, rfBy] at h | cons x t => exact rfB_cons x t) (fun xs h => by cases xs with | nil => simp [rdBw] at h | cons x t => exact rfB_cons x t) (fun xs => by simp [rfB, rfBy]) (fun xs b ho => (rfBy_oct 1 xs b ho).1)
/-- A truth. -/
def rfF (xs : List Int) (b : Bool) : Bool × List Int × Bool := (decide ((rfB xs b).1 = 1), (rfB xs b).2.1, (rfB xs b).2.2 || decide (1 < (rfB xs b).1))
theorem rfF_ok : RdOk rfF encF (fun _ => True) :=
  rdFw_ok.like (fun xs h => by cases xs with | nil => simp [rfF, rfB, rfBy] at h | cons x t => unfold rfF rdFw; rw [rfB_cons]; rfl) (fun xs h => by cases xs with | nil => simp [rdFw, rdBw] at h | cons x t => unfold rfF rdFw; rw [rfB_cons]; rfl) (fun xs => by simp [rfF, rfB, rfBy]) (fun xs b ho => (rfBy_oct 1 xs b ho).1)
theorem rfF_len : RdLe rfF := fun xs b => rfBy_len 1 xs b
theorem rfF_enc (b : Bool) (r : List Int) : rfF (encF b ++ r) false = (b, r, false) := rfF_ok.compl b r trivial
/-- A stamp. -/
def rfS (xs : List Int) (b : Bool) : (Int × Int) × List Int × Bool := ((takeW (rfBy 16 xs b).1, takeT (rfBy 16 xs b).1), (rfBy 16 xs b).2.1, (rfBy 16 xs b).2.2)
theorem takeE_16 {l : List Int} (h : l.length = 16) : takeE l = 0 := by unfold takeE; rw [if_neg (by omega), if_neg (by omega)]
theorem takeE_no {l : List Int} (h : l.length < 16) : takeE l ≠ 0 := by
  unfold takeE
  repeat' split
  all_goals first | decide | omega
theorem rfS_ok : RdOk rfS (fun p => stampB p.1 p.2) (fun p => In64 p.1 ∧ In64 p.2) := by
  have hc : ∀ xs : List Int, 16 ≤ xs.length → rfS xs false = rdSw xs false := fun xs h => by
    have e : rfBy 16 xs false = (xs.take 16, xs.drop 16, false) := if_neg (by simp; omega)
    unfold rfS rdSw
    rw [e, takeE_16 (by rw [List.length_take]; omega)]
    rfl
  refine rdSw_ok.like (fun xs h => hc xs ?_) (fun xs h => hc xs ?_) (fun xs => by simp [rfS, rfBy]) (fun xs b ho => (rfBy_oct 16 xs b ho).1)
  · rcases Nat.lt_or_ge xs.length 16 with hl | hl
    · simp [rfS, rfBy, hl] at h
    · exact hl
  · rcases Nat.lt_or_ge xs.length 16 with hl | hl
    · have := takeE_no (l := xs.take 16) (by rw [List.length_take]; omega)
      simp [rdSw, this] at h
    · exact hl
/-- Two bytes. -/
def rf16 (xs : List Int) (b : Bool) : Int × List Int × Bool := (beVal (rfBy 2 xs b).1, (rfBy 2 xs b).2.1, (rfBy 2 xs b).2.2)
theorem rf16_ok : RdOk rf16 put2 In16 := by
  have hc : ∀ xs : List Int, 2 ≤ xs.length → rf16 xs false = rd16 xs false := fun xs h => by
    have e : rfBy 2 xs false = (xs.take 2, xs.drop 2, false) := if_neg (by simp; omega)
    unfold rf16 rd16
    rw [e, if_pos h]
    simp only [Bool.false_or, Prod.mk.injEq, true_and]
    exact (decide_eq_false (by omega)).symm
  refine rd16_ok.like (fun xs h => hc xs ?_) (fun xs h => hc xs ?_) (fun xs => by simp [rf16, rfBy]) (fun xs b ho => (rfBy_oct 2 xs b ho).1)
  · rcases Nat.lt_or_ge xs.length 2 with hl | hl
    · simp [rf16, rfBy, hl] at h
    · exact hl
  · unfold rd16 at h; simp only [Bool.false_or, decide_eq_false_iff_not] at h; omega
theorem rf16_len : RdLe rf16 := fun xs b => rfBy_len 2 xs b
/-- An attempt. -/
def rfY : List Int → Bool → (Int × Int × Int × Int) × List Int × Bool := rd2 rfN (rd2 rfN (rd2 rfN rfN))
theorem rfY_ok : RdOk rfY (fun p => encY p.1 p.2.1 p.2.2.1 p.2.2.2) (fun p => In64 p.1 ∧ In64 p.2.1 ∧ In64 p.2.2.1 ∧ In64 p.2.2.2) := by
  have h := rd2_ok rfN_ok (rd2_ok rfN_ok (rd2_ok rfN_ok rfN_ok))
  have := rdMap_ok (φ := id) (e' := fun p => encY p.1 p.2.1 p.2.2.1 p.2.2.2) (k' := fun p => In64 p.1 ∧ In64 p.2.1 ∧ In64 p.2.2.1 ∧ In64 p.2.2.2) h id (fun _ => rfl) (fun a => by simp [encY]) (fun _ => Iff.rfl)
  exact this
/-- How many. -/
def rfC (xs : List Int) (b : Bool) : Int × List Int × Bool := if (rfN xs b).1 < 0 ∨ 65536 < (rfN xs b).1 then (0, (rfN xs b).2.1, true) else rfN xs b
theorem rfC_range (xs : List Int) (b : Bool) : 0 ≤ (rfC xs b).1 ∧ (rfC xs b).1 ≤ 65536 := by
  unfold rfC
  split
  · exact ⟨Int.le_refl 0, by show (0 : Int) ≤ 65536; decide⟩
  · omega
theorem rfC_oct (xs : List Int) (b : Bool) (h : Oct xs) : Oct (rfC xs b).2.1 := by
  unfold rfC
  split
  · exact rfN_ok.oct xs b h
  · exact rfN_ok.oct xs b h
/-- As many as are told, while it can. -/
def rfL {α : Type} (f : List Int → Bool → α × List Int × Bool) (xs : List Int) (b : Bool) : List α × List Int × Bool := itF f (rfC xs b).1.toNat (rfC xs b).2.1 (rfC xs b).2.2
theorem rfL_ok {α : Type} {f : List Int → Bool → α × List Int × Bool} {e : α → List Int} {k : α → Prop} (hf : RdOk f e k) : RdOk (rfL f) (fun l => encN l.length ++ l.flatMap e) (fun l => l.length ≤ 65536 ∧ ∀ a ∈ l, k a) := by
  have hb : ∀ xs : List Int, (rfL f xs false).2.2 = false → (rfC xs false).2.2 = false := fun xs h => by
    cases hc : (rfC xs false).2.2 with
    | false => rfl
    | true => unfold rfL at h; rw [hc, itF_true] at h; cases h
  have he : ∀ xs : List Int, (rfC xs false).2.2 = false → rfL f xs false = rdL f xs false := fun xs h => by
    unfold rfL rdL
    by_cases hc : (rfN xs false).1 < 0 ∨ 65536 < (rfN xs false).1
    · unfold rfC at h; rw [if_pos hc] at h; cases h
    · have e : rfC xs false = rfN xs false := if_neg hc
      rw [e] at h ⊢
      have e2 : rfN xs false = rdNw xs false := stick_eq h
      rw [e2] at hc ⊢
      rw [if_neg hc]
  have hd : ∀ xs : List Int, (rdL f xs false).2.2 = false → (rfC xs false).2.2 = false := fun xs h => by
    unfold rdL at h
    by_cases hc : (rdNw xs false).1 < 0 ∨ 65536 < (rdNw xs false).1
    · rw [if_pos hc] at h; cases h
    · rw [if_neg hc] at h
      have hn : (rdNw xs false).2.2 = false := by
        cases hn : (rdNw xs false).2.2 with
        | false => rfl
        | true => rw [hn, itF_true] at h; cases h
      have e2 : rfN xs false = rdNw xs false := stick_good hn
      unfold rfC
      rw [e2, if_neg hc]; exact hn
  have ht : ∀ xs : List Int, (rfC xs true).2.2 = true := fun xs => by
    unfold rfC
    split
    · rfl
    · exact rfN_ok.sticky xs
  exact (rdL_ok hf).like (fun xs h => he xs (hb xs h)) (fun xs h => he xs (hd xs h)) (fun xs => by unfold rfL; rw [ht, itF_true]) (fun xs b ho => itF_oct hf (rfC_oct xs b ho) _ _)
def rfOpt {α : Type} (f : List Int → Bool → α × List Int × Bool) (xs : List Int) (b : Bool) : Option α × List Int × Bool :=
  if (rfF xs b).1 then (some (f (rfF xs b).2.1 (rfF xs b).2.2).1, (f (rfF xs b).2.1 (rfF xs b).2.2).2.1, (f (rfF xs b).2.1 (rfF xs b).2.2).2.2) else (none, (rfF xs b).2.1, (rfF xs b).2.2)
theorem rfOpt_ok {α : Type} {f : List Int → Bool → α × List Int × Bool} {e : α → List Int} {k : α → Prop} (hf : RdOk f e k) : RdOk (rfOpt f) (encOpt e) (fun o => ∀ a, o = some a → k a) where
  sound xs o ys ho h := by
    unfold rfOpt at h
    obtain ⟨⟨t, zs, b⟩, hr⟩ : ∃ r, rfF xs false = r := ⟨_, rfl⟩
    have o2 : Oct zs := by have := rfF_ok.oct xs false ho; rw [hr] at this; exact this
    rw [hr] at h
    cases t with
    | true =>
      simp only [if_true, Prod.mk.injEq] at h
      obtain ⟨rfl, h2, h3⟩ := h
      have hb : b = false := by
        cases b with
        | false => rfl
        | true => rw [hf.sticky] at h3; cases h3
      subst hb
      obtain ⟨-, e1⟩ := rfF_ok.sound xs true zs ho hr
      obtain ⟨o1, e2⟩ := hf.sound zs (f zs false).1 ys o2 (trip h2 h3)
      refine ⟨fun a ha => by cases ha; exact o1, ?_⟩
      show xs = (encF true ++ _) ++ ys
      rw [List.append_assoc, ← e2]; exact e1
    | false =>
      simp only [Bool.false_eq_true, if_false, Prod.mk.injEq] at h
      obtain ⟨rfl, rfl, rfl⟩ := h
      obtain ⟨-, e1⟩ := rfF_ok.sound xs false zs ho hr
      exact ⟨fun a ha => (by cases ha), e1⟩
  compl o r h := by
    unfold rfOpt
    cases o with
    | none =>
      show _ = _
      simp only [encOpt, rfF_enc]
      simp
    | some a =>
      simp only [encOpt, List.append_assoc, rfF_enc, if_true, hf.compl a r (h a rfl)]
  sticky xs := by
    unfold rfOpt
    split
    · rw [rfF_ok.sticky]; exact hf.sticky _
    · exact rfF_ok.sticky xs
  oct xs b ho := by
    unfold rfOpt
    split
    · exact hf.oct _ _ (rfF_ok.oct xs b ho)
    · exact rfF_ok.oct xs b ho
def rfSp : List Int → Bool → SpX × List Int × Bool := rdMap (rd2 rfT rfT) fun p => ⟨p.1, p.2⟩
def rfWr : List Int → Bool → WrX × List Int × Bool := rdMap (rd2 rfT (rd2 rfF rfT)) fun p => ⟨p.1, p.2.1, p.2.2⟩
def rfVe : List Int → Bool → VeX × List Int × Bool := rdMap (rd2 rfS (rd2 rfF rfT)) fun p => ⟨p.1.1, p.1.2, p.2.1, p.2.2⟩
def rfOu : List Int → Bool → OuX × List Int × Bool := rdMap (rd2 rfY (rd2 rfS rfF)) fun p => ⟨p.1.1, p.1.2.1, p.1.2.2.1, p.1.2.2.2, p.2.1.1, p.2.1.2, p.2.2⟩
theorem rfSp_ok : RdOk rfSp encSp SpV := rdMap_ok (rd2_ok rfT_ok rfT_ok) (fun s => (s.lo, s.hi)) (fun _ => rfl) (fun _ => rfl) (fun _ => Iff.rfl)
theorem rfWr_ok : RdOk rfWr encWr WrV := rdMap_ok (rd2_ok rfT_ok (rd2_ok rfF_ok rfT_ok)) (fun s => (s.k, s.r, s.d)) (fun _ => rfl) (fun a => by simp [encWr]) (fun _ => Iff.rfl)
theorem rfVe_ok : RdOk rfVe encVe VeV := rdMap_ok (rd2_ok rfS_ok (rd2_ok rfF_ok rfT_ok)) (fun s => ((s.w, s.t), s.r, s.d)) (fun _ => rfl) (fun a => by simp [encVe]) (fun _ => Iff.rfl)
theorem rfOu_ok : RdOk rfOu encOu OuV := rdMap_ok (rd2_ok rfY_ok (rd2_ok rfS_ok rfF_ok)) (fun s => ((s.yn, s.yl, s.ys, s.ya), (s.sw, s.st), s.yes)) (fun _ => rfl) (fun a => by simp [encOu]) (fun _ => Iff.rfl)
def rfLock : List Int → Bool → LkT × List Int × Bool := rd2 rfY (rd2 rfN (rd2 rfS (rd2 rfF rfT)))
def rfCe : List Int → Bool → CeX × List Int × Bool := rdMap (rd2 rfT (rd2 (rfL rfVe) (rfOpt rfLock))) mkCe
theorem rfCe_ok : RdOk rfCe encCe CeV := by
  have h := rd2_ok rfT_ok (rd2_ok (rfL_ok rfVe_ok) (rfOpt_ok (rd2_ok rfY_ok (rd2_ok rfN_ok (rd2_ok rfS_ok (rd2_ok rfF_ok rfT_ok))))))
  have he : ∀ p : ByteArray × List VeX × Option LkT, encCe (mkCe p) = encT p.1 ++ ((encN p.2.1.length ++ p.2.1.flatMap encVe) ++ encOpt (fun l : LkT => encY l.1.1 l.1.2.1 l.1.2.2.1 l.1.2.2.2 ++ (encN l.2.1 ++ (stampB l.2.2.1.1 l.2.2.1.2 ++ (encF l.2.2.2.1 ++ encT l.2.2.2.2)))) p.2.2) := by
    rintro ⟨k, vs, o⟩
    cases o with
    | none => simp [mkCe, encCe, encLk, encOpt]
    | some l => simp [mkCe, encCe, encLk, encOpt]
  have hk : ∀ p : ByteArray × List VeX × Option LkT, CeV (mkCe p) ↔ (TxV p.1 ∧ (p.2.1.length ≤ 65536 ∧ ∀ a ∈ p.2.1, VeV a) ∧ ∀ l : LkT, p.2.2 = some l → (In64 l.1.1 ∧ In64 l.1.2.1 ∧ In64 l.1.2.2.1 ∧ In64 l.1.2.2.2) ∧ In64 l.2.1 ∧ (In64 l.2.2.1.1 ∧ In64 l.2.2.1.2) ∧ True ∧ TxV l.2.2.2.2) := by
    rintro ⟨k, vs, o⟩
    cases o with
    | none => exact ⟨fun c => ⟨c.k, ⟨c.n, c.vs⟩, (fun l h => by cases h)⟩, fun c => ⟨c.1, c.2.1.1, c.2.1.2, (fun h => by cases h), fun _ => rfl⟩⟩
    | some l => exact ⟨fun c => ⟨c.k, ⟨c.n, c.vs⟩, (fun l' h => by cases h; exact c.l rfl)⟩, fun c => ⟨c.1, c.2.1.1, c.2.1.2, (fun _ => c.2.2 l rfl), (fun h => by cases h)⟩⟩
  refine ⟨fun xs a ys ho hh => ?_, fun a r ha => ?_, fun xs => h.sticky xs, fun xs b ho => h.oct xs b ho⟩
  · unfold rfCe rdMap at hh
    simp only [Prod.mk.injEq] at hh
    obtain ⟨rfl, h2, h3⟩ := hh
    obtain ⟨o, e1⟩ := h.sound xs (rd2 rfT (rd2 (rfL rfVe) (rfOpt rfLock)) xs false).1 ys ho (trip h2 h3)
    exact ⟨(hk _).2 o, by rw [he]; exact e1⟩
  · have hu : mkCe (unCe a) = a := by
      unfold unCe mkCe
      cases hb : a.lk with
      | true => simp only [if_true]; rw [← hb]
      | false => exact (ha.z hb).symm
    unfold rfCe rdMap
    have e1 : encCe a = encCe (mkCe (unCe a)) := by rw [hu]
    have k1 := (hk (unCe a)).1 (by rw [hu]; exact ha)
    have hc := h.compl (unCe a) r k1
    rw [e1, he]
    have hc' : rd2 rfT (rd2 (rfL rfVe) (rfOpt rfLock)) (encT (unCe a).1 ++ ((encN (unCe a).2.1.length ++ (unCe a).2.1.flatMap encVe) ++ encOpt (fun l : LkT => encY l.1.1 l.1.2.1 l.1.2.2.1 l.1.2.2.2 ++ (encN l.2.1 ++ (stampB l.2.2.1.1 l.2.2.1.2 ++ (encF l.2.2.2.1 ++ encT l.2.2.2.2)))) (unCe a).2.2) ++ r) false = (unCe a, r, false) := hc
    rw [hc', hu]
def rfCmT : List Int → Bool → CmT × List Int × Bool := rd2 rfN (rd2 rfN (rd2 rfN (rd2 rfN (rd2 rfY (rd2 rfS (rd2 rfN (rd2 rfF (rd2 (rfL rfSp) (rfL rfWr)))))))))
def rfCm : List Int → Bool → CmX × List Int × Bool := rdMap rfCmT mkCm
theorem rfCm_ok : RdOk rfCm encCmB CmV :=
  rdMap_ok (rd2_ok rfN_ok (rd2_ok rfN_ok (rd2_ok rfN_ok (rd2_ok rfN_ok (rd2_ok rfY_ok (rd2_ok rfS_ok (rd2_ok rfN_ok (rd2_ok rfF_ok (rd2_ok (rfL_ok rfSp_ok) (rfL_ok rfWr_ok)))))))))) unCm (fun _ => rfl) (fun _ => rfl) (fun _ => Iff.rfl)
def rfPaT : List Int → Bool → PaT × List Int × Bool := rd2 rfN (rd2 rfN (rd2 rfS (rd2 rfN (rd2 rfN (rd2 (rfL rfCe) (rd2 (rfL rfOu) (rfL rfOu)))))))
def rfPa : List Int → Bool → PaX × List Int × Bool := rdMap rfPaT mkPa
theorem rfPa_ok : RdOk rfPa encPaB PaV :=
  rdMap_ok (rd2_ok rfN_ok (rd2_ok rfN_ok (rd2_ok rfS_ok (rd2_ok rfN_ok (rd2_ok rfN_ok (rd2_ok (rfL_ok rfCe_ok) (rd2_ok (rfL_ok rfOu_ok) (rfL_ok rfOu_ok)))))))) unPa (fun _ => rfl) (fun _ => rfl) (fun _ => Iff.rfl)
def rfCf : List Int → Bool → CfX × List Int × Bool := rdMap (rd2 rf16 (rd2 rf16 (rd2 rf16 (rd2 rfN rfN)))) fun p => ⟨p.1, p.2.1, p.2.2.1, p.2.2.2.1, p.2.2.2.2⟩
theorem rfCf_ok : RdOk rfCf encCf CfF :=
  rdMap_ok (rd2_ok rf16_ok (rd2_ok rf16_ok (rd2_ok rf16_ok (rd2_ok rfN_ok rfN_ok)))) (fun c => (c.v, c.x, c.l, c.e, c.k)) (fun _ => rfl) (fun a => by simp [encCf]) (fun _ => ⟨fun c => ⟨c.v, c.x, c.l, c.e, c.k⟩, fun c => ⟨c.1, c.2.1, c.2.2.1, c.2.2.2.1, c.2.2.2.2⟩⟩)
def rfJo : List Int → Bool → JoX × List Int × Bool := rdMap (rd2 rfCf (rd2 rfCf rfF)) fun p => ⟨p.1, p.2.1, p.2.2⟩
theorem rfJo_ok : RdOk rfJo encJo JoF :=
  rdMap_ok (rd2_ok rfCf_ok (rd2_ok rfCf_ok rfF_ok)) (fun j => (j.o, j.n, j.two)) (fun _ => rfl) (fun a => by simp [encJo]) (fun _ => ⟨fun c => ⟨c.o, c.n, trivial⟩, fun c => ⟨c.1, c.2.1⟩⟩)
theorem rfCf_len : RdLe rfCf := fun xs b => rd2_len rf16_len (rd2_len rf16_len (rd2_len rf16_len (rd2_len rfN_len rfN_len))) xs b
end Go.Proofs.Ytmhmlpfkdpjlaaa
