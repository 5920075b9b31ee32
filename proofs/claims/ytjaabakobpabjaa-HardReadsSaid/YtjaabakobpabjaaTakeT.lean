/- Contracts: how texts behind their length are read, by package bits and by its reference. -/
import Derived.Test.YtjaabakobpabjaaTakeR
import Derived.Test.YtjaabakobpabjaaPlainMade
import Derived.Test.YtjaabakobpabjaaNums
namespace Go.Proofs.Ytjaabakobpabjaa
open Go.ChangeShapes Go.WideShapes Go.ChangeAt Go.RowKit

/-- What bytes read as: the text, how many bytes, the error. -/
def textR (xs : List Int) : List Int × Int × Int :=
  if (takeV xs).2.2 ≠ 0 then ([], 0, (takeV xs).2.2)
  else if 1048576 < (takeV xs).1 then ([], 0, 3)
  else if (xs.length : Int) - (takeV xs).2.1 < (takeV xs).1 then ([], 0, 2)
  else ((xs.drop (takeV xs).2.1.toNat).take (takeV xs).1.toNat, (takeV xs).2.1 + (takeV xs).1, 0)
theorem textR_eq (xs : List Int) {t1 t2 t3 : Int} (h : takeV xs = (t1, t2, t3)) : textR xs = if t3 ≠ 0 then ([], 0, t3) else if 1048576 < t1 then ([], 0, 3) else if (xs.length : Int) - t2 < t1 then ([], 0, 2) else ((xs.drop t2.toNat).take t1.toNat, t2 + t1, 0) := by
  unfold textR; rw [h]
def TextEnd (w : World) (r : List Int × Int × Int) (e : Ending) (w' : World) : Prop :=
  ∃ v', e = .returned (.tuple #[v', .int .i64 r.2.1, .int .i64 r.2.2]) ∧ w'.ownsRow w.heap.size 5 1 v' r.1.length (byt r.1) ∧ Below w.heap.size w w'
theorem textEnd_nil {w w' : World} {r : List Int × Int × Int} {n er : Int} (h : r = ([], n, er)) (hb : Below w.heap.size w w') : TextEnd w r (.returned (.tuple #[.slice none 0 0, .int .i64 n, .int .i64 er])) w' := by
  subst h; exact ⟨_, rfl, ⟨rfl, .inl ⟨rfl, rfl⟩⟩, hb⟩
set_option maxRecDepth 100000 in
set_option maxHeartbeats 4000000 in
theorem takeText_any (B : Nat) (v : Value) (xs : List Int) (hx : ∀ x ∈ xs, 0 ≤ x ∧ x ≤ 255) (w : World) (hs : Sl B w v 1 xs.length (byt xs)) (hB : B ≤ w.heap.size) (_hb : (xs.length : Int) ≤ 140737488355300) :
    Calls Try.prog 81 #[v] w (TextEnd w (textR xs)) := by
  have HT := Lib.hid (takeVar_any B v xs hx w hs)
  have HO := takeGo_ok xs 0 0 1 (by omega) hx (by omega) (by omega) rfl
  have HS := Lib.hid hs
  obtain ⟨p, cap, rfl, h1, h2, -, h3⟩ := hs.form
  have H3 := Lib.hid h3
  unfold maxLen at h2
  clear hs h3
  obtain ⟨t, ht⟩ : ∃ t, takeV xs = t := ⟨_, rfl⟩
  unfold takeV at ht HT
  rw [ht] at HT HO
  obtain ⟨t1, t2, t3⟩ := t
  have HR := Lib.hid (textR_eq xs ht)
  clear ht
  obtain ⟨p0, p1, q0, q1, r0, r1⟩ := HO
  simp only [] at p0 p1 q0 q1 r0 r1
  by_cases he : t3 = 0
  · subst he
    by_cases hg : 1048576 < t1
    · have HE : Hid (textR xs = ([], 0, 3)) := by show _ = _; rw [HR.out]; simp [hg]
      clear HR
      go_enter Try.func81, Try.ntmps81
      go_wp2_with fail
      refine HT.out.mono ?_; rintro e w' ⟨rfl, rfl⟩
      go_wp2_with fail
      go_ret3
      exact textEnd_nil HE.out (Below.refl _ _)
    · by_cases hl : (xs.length : Int) - t2 < t1
      · have HE : Hid (textR xs = ([], 0, 2)) := by show _ = _; rw [HR.out]; simp [hg, hl]
        clear HR
        go_enter Try.func81, Try.ntmps81
        go_wp2_with fail
        refine HT.out.mono ?_; rintro e w' ⟨rfl, rfl⟩
        go_wp2_with fail
        go_ret3
        exact textEnd_nil HE.out (Below.refl _ _)
      · obtain ⟨m, rfl⟩ := Int.eq_ofNat_of_zero_le q0
        obtain ⟨q, rfl⟩ := Int.eq_ofNat_of_zero_le p0
        have HE : Hid (textR xs = ((xs.drop m).take q, (m : Int) + q, 0)) := by show _ = _; rw [HR.out]; simp [hg, hl]
        clear HR
        go_enter Try.func81, Try.ntmps81
        go_wp2_with fail
        refine HT.out.mono ?_; rintro e w' ⟨rfl, rfl⟩
        go_wp2_with fail
        all_goals
          refine (room_any B _ ((xs.drop m).take q) 0 _ (by first | exact HS.out.part (by omega) rfl | exact HS.out.part0 (by omega) (by omega) rfl rfl) hB (by omega) (by rw [part_len (by omega)]; omega)).mono ?_; rintro e w1 ⟨v1, rfl, hown, hb1⟩
          go_wp2_with fail
          go_ret3
          rw [HE.out]
          exact ⟨v1, rfl, hown, hb1⟩
  · have HE : Hid (textR xs = ([], 0, t3)) := by show _ = _; rw [HR.out]; simp [he]
    have he' : (t3 != 0) = true := by simpa using he
    clear HR he
    go_enter Try.func81, Try.ntmps81
    go_wp2_with fail
    refine HT.out.mono ?_; rintro e w' ⟨rfl, rfl⟩
    go_wp2_with fail
    go_ret3
    exact textEnd_nil HE.out (Below.refl _ _)
set_option maxRecDepth 100000 in
set_option maxHeartbeats 4000000 in
theorem refTakeText_any (B : Nat) (v : Value) (xs : List Int) (hx : ∀ x ∈ xs, 0 ≤ x ∧ x ≤ 255) (w : World) (hs : Sl B w v 1 xs.length (byt xs)) (hB : B ≤ w.heap.size) (hb : (xs.length : Int) ≤ 140737488355300) :
    Calls Try.prog 86 #[v] w (TextEnd w (textR xs)) := by
  have HT := Lib.hid (refTakeVar_any B v xs hx w hs)
  obtain ⟨i0, hi, hz0, hz1, hz2⟩ := info_parts Try.infoU8
  have HO := takeGo_ok xs 0 0 1 (by omega) hx (by omega) (by omega) rfl
  have HS := Lib.hid hs
  obtain ⟨p, cap, rfl, h1, h2, -, h3⟩ := hs.form
  have H3 := Lib.hid h3
  unfold maxLen at h2
  clear hs h3
  obtain ⟨t, ht⟩ : ∃ t, takeV xs = t := ⟨_, rfl⟩
  unfold takeV at ht HT
  rw [ht] at HT HO
  obtain ⟨t1, t2, t3⟩ := t
  have hne : t3 = 0 → 0 < xs.length := fun h => by
    cases xs with
    | nil => simp [takeGo] at ht; omega
    | cons => simp
  have HR := Lib.hid (textR_eq xs ht)
  clear ht
  obtain ⟨p0, p1, q0, q1, r0, r1⟩ := HO
  simp only [] at p0 p1 q0 q1 r0 r1
  by_cases he : t3 = 0
  · subst he
    by_cases hg : 1048576 < t1
    · have HE : Hid (textR xs = ([], 0, 3)) := by show _ = _; rw [HR.out]; simp [hg]
      clear HR
      go_enter Try.func86, Try.ntmps86
      go_wp2_with fail
      refine HT.out.mono ?_; rintro e w' ⟨rfl, rfl⟩
      go_wp2_with fail
      go_ret3
      exact textEnd_nil HE.out (Below.refl _ _)
    · by_cases hl : (xs.length : Int) - t2 < t1
      · have HE : Hid (textR xs = ([], 0, 2)) := by show _ = _; rw [HR.out]; simp [hg, hl]
        clear HR
        go_enter Try.func86, Try.ntmps86
        go_wp2_with fail
        refine HT.out.mono ?_; rintro e w' ⟨rfl, rfl⟩
        go_wp2_with fail
        go_ret3
        exact textEnd_nil HE.out (Below.refl _ _)
      · obtain ⟨m, rfl⟩ := Int.eq_ofNat_of_zero_le q0
        obtain ⟨q, rfl⟩ := Int.eq_ofNat_of_zero_le p0
        have HE : Hid (textR xs = ((xs.drop m).take q, (m : Int) + q, 0)) := by show _ = _; rw [HR.out]; simp [hg, hl]
        clear HR
        obtain ⟨g, o, rfl, -, -⟩ := H3.out 0 (hne rfl)
        have hlen := part_len (xs := xs) (m := m) (q := q) (by omega)
        have HS2 := Lib.hid (HS.out.keep (below_alloc w (.cells #[] 5) hB))
        have HL := Lib.hid hlen
        by_cases hcm : cap = m
        · have SP := HS2.out
          have hcm' : ¬ m < cap := by omega
          have SQ := Lib.hid SP
          clear SP hlen HS HS2 hcm
          go_enter Try.func86, Try.ntmps86
          go_wp2_with fail
          refine HT.out.mono ?_; rintro e w' ⟨rfl, rfl⟩
          go_wp2_with (at_builtin; refine wpList_append_sl rfl (.tmp 26) (.tmp 33) 32 rfl w.heap.size 5 i0 (.int .u8 0) 1 1 Try.underlying32 hi hz0 hz1 hz2 rfl (by decide) _ 0 [] rfl (own_empty w 5 w.heap.size (Nat.le_refl _)) B _ ((xs.drop m).take q).length (byt ((xs.drop m).take q)) rfl (by first | exact SQ.out.partA (by omega) (by omega) | exact SQ.out.part0 (by omega) (by omega) (by omega) (by omega)) (byt_one _) (by rw [HL.out]; unfold maxLen; omega) (by rw [HL.out]; omega) (by simp) ?_)
          intro v2 w2 hown2 hgrow2
          try simp only [Nat.zero_add, List.nil_append] at hown2
          have hb2 : Below w.heap.size w w2 := (below_alloc w (.cells #[] 5) (Nat.le_refl _)).grown hgrow2 (by simp) (fun k hk => by simp [Value.ownBlock] at hk; omega)
          have HO : Hid (w2.ownsRow w.heap.size 5 1 v2 ((xs.drop m).take q).length (byt ((xs.drop m).take q))) := by show World.ownsRow _ _ _ _ _ _ _; rw [HL.out]; have h := hown2; rw [Nat.min_eq_left (show q ≤ xs.length - m by omega)] at h; exact h
          clear hown2 hgrow2
          go_wp2_with fail
          go_ret3
          rw [HE.out]
          exact ⟨v2, rfl, HO.out, hb2⟩
        · have SP := HS2.out
          have hcm' : m < cap := by omega
          have SQ := Lib.hid SP
          clear SP hlen HS HS2 hcm
          go_enter Try.func86, Try.ntmps86
          go_wp2_with fail
          refine HT.out.mono ?_; rintro e w' ⟨rfl, rfl⟩
          go_wp2_with (at_builtin; refine wpList_append_sl rfl (.tmp 26) (.tmp 33) 32 rfl w.heap.size 5 i0 (.int .u8 0) 1 1 Try.underlying32 hi hz0 hz1 hz2 rfl (by decide) _ 0 [] rfl (own_empty w 5 w.heap.size (Nat.le_refl _)) B _ ((xs.drop m).take q).length (byt ((xs.drop m).take q)) rfl (by first | exact SQ.out.partA (by omega) (by omega) | exact SQ.out.part0 (by omega) (by omega) (by omega) (by omega)) (byt_one _) (by rw [HL.out]; unfold maxLen; omega) (by rw [HL.out]; omega) (by simp) ?_)
          intro v2 w2 hown2 hgrow2
          try simp only [Nat.zero_add, List.nil_append] at hown2
          have hb2 : Below w.heap.size w w2 := (below_alloc w (.cells #[] 5) (Nat.le_refl _)).grown hgrow2 (by simp) (fun k hk => by simp [Value.ownBlock] at hk; omega)
          have HO : Hid (w2.ownsRow w.heap.size 5 1 v2 ((xs.drop m).take q).length (byt ((xs.drop m).take q))) := by show World.ownsRow _ _ _ _ _ _ _; rw [HL.out]; have h := hown2; rw [Nat.min_eq_left (show q ≤ xs.length - m by omega)] at h; exact h
          clear hown2 hgrow2
          go_wp2_with fail
          go_ret3
          rw [HE.out]
          exact ⟨v2, rfl, HO.out, hb2⟩
  · have HE : Hid (textR xs = ([], 0, t3)) := by show _ = _; rw [HR.out]; simp [he]
    have he' : (t3 != 0) = true := by simpa using he
    clear HR he
    go_enter Try.func86, Try.ntmps86
    go_wp2_with fail
    refine HT.out.mono ?_; rintro e w' ⟨rfl, rfl⟩
    go_wp2_with fail
    go_ret3
    exact textEnd_nil HE.out (Below.refl _ _)
end Go.Proofs.Ytjaabakobpabjaa
