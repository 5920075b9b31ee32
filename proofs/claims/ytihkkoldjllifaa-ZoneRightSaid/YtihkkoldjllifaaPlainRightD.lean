/- ZoneRight: what Check answers, as the law looks at it. -/
import Derived.Test.YtihkkoldjllifaaPlainRightC
namespace Go.Proofs.Ytihkkoldjllifaa

theorem check_bad {rs load : List Int} {z : Zn} {v x l e k err : Int} (h : checkP rs load z = (⟨v, x, l, e, k⟩, err)) (h0 : err ≠ 0) (h12 : err ≠ 12) : v = 0 ∧ x = 0 ∧ l = 0 ∧ e = 0 ∧ k = 0 := by
  obtain ⟨⟨⟨av, ax, al, ae, ak⟩, ea⟩, hA⟩ : ∃ A, allotP rs load z = A := ⟨_, rfl⟩
  have fin : ∀ n, (noCfg, n) = ((⟨v, x, l, e, k⟩ : Cfg), err) → v = 0 ∧ x = 0 ∧ l = 0 ∧ e = 0 ∧ k = 0 := fun n hn => by
    have := congrArg Prod.fst hn
    exact ⟨(congrArg Cfg.v this).symm, (congrArg Cfg.x this).symm, (congrArg Cfg.l this).symm, (congrArg Cfg.e this).symm, (congrArg Cfg.k this).symm⟩
  by_cases he : ea = 0
  · subst he
    cases hm : mayC av ax al ae ak
    · rw [check_may hA hm] at h; exact fin _ h
    · cases hs : (survives rs av ax al ae ak z.s).1
      · rw [check_zone hA hm hs] at h; exact absurd (congrArg Prod.snd h).symm h12
      · rw [check_ok hA hm hs] at h; exact absurd (congrArg Prod.snd h).symm h0
  · rw [check_err hA he] at h; exact fin _ h
theorem allot_err {rs load : List Int} {z : Zn} : (allotP rs load z).2 = 0 ∨ (allotP rs load z).2 = 1 ∨ (allotP rs load z).2 = 8 := by
  unfold allotP
  split
  · cases allotGo rs load z 12 0 ⟨0, 0, 0⟩ with
    | none => exact .inr (.inr rfl)
    | some s => exact .inl rfl
  · exact .inr (.inl rfl)
theorem check_good {rs load : List Int} {z : Zn} {v x l e k err : Int} (h : checkP rs load z = (⟨v, x, l, e, k⟩, err)) (h0 : err = 0 ∨ err = 12) :
    ∃ av ax al ae ak, allotP rs load z = (⟨av, ax, al, ae, ak⟩, 0) ∧ FitC av ax al ∧ mayC av ax al ae ak = true ∧ Right rs z 12 ⟨av, ax, al⟩ ∧ mayZ z = true ∧ regB rs = true ∧ brk rs av ax al ae ak z.s 10 = decide (err = 12) ∧
      (err = 0 → v = av ∧ x = ax ∧ l = al ∧ e = ae ∧ k = ak) := by
  have hfit := allotP_fit rs load z
  have her := allot_err (rs := rs) (load := load) (z := z)
  obtain ⟨⟨⟨av, ax, al, ae, ak⟩, ea⟩, hA⟩ : ∃ A, allotP rs load z = A := ⟨_, rfl⟩
  rw [hA] at hfit her
  simp only at hfit her
  by_cases he : ea = 0
  · subst he
    obtain ⟨hrb, hmz, hR⟩ := right_allot hA
    obtain ⟨l1, l9⟩ := regB_len hrb
    cases hm : mayC av ax al ae ak
    · rw [check_may hA hm] at h
      have := congrArg Prod.snd h; simp only at this; omega
    · have hsub : ∀ j : Nat, 1 ≤ j → j ≤ 9 → tb (bits .or .u16 av ax) j = true → j ≤ rs.length := fun j j1 j9 hv => by
        rw [tb_or _ _ hfit.v0 hfit.x0 j (by omega)] at hv
        simp only [Bool.or_eq_true] at hv
        rcases hv with hv | hv
        · exact hR.sub 0 (by omega) j (by rw [hasB_tb _ j j1 j9]; exact hv)
        · exact hR.sub 1 (by omega) j (by rw [hasB_tb _ j j1 j9]; exact hv)
      have hz : z.s = 0 ∨ z.s = 1 ∨ z.s = 2 := by
        unfold mayZ at hmz
        simp only [Bool.and_eq_true, decide_eq_true_eq] at hmz
        obtain ⟨_, _, _, _, _, a, b⟩ := hmz; omega
      have hb : brk rs av ax al ae ak z.s 10 = !(survives rs av ax al ae ak z.s).1 := by
        rcases hz with hz | hz | hz
        · rw [hz, brk_0 hfit hm hrb hsub, surv_0 hrb]; rfl
        · rw [hz, brk_1 hfit hm hrb hsub, surv_1 hrb]
        · rw [hz, brk_2 hfit hm hrb hsub, surv_2 hrb]
      refine ⟨av, ax, al, ae, ak, hA, hfit, hm, hR, hmz, hrb, ?_, ?_⟩
      · rw [hb]
        cases hs : (survives rs av ax al ae ak z.s).1
        · rw [check_zone hA hm hs] at h
          have := congrArg Prod.snd h; simp only at this; subst this; rfl
        · rw [check_ok hA hm hs] at h
          have := congrArg Prod.snd h; simp only at this; subst this; rfl
      · intro e0
        cases hs : (survives rs av ax al ae ak z.s).1
        · rw [check_zone hA hm hs] at h
          have := congrArg Prod.snd h; simp only at this; omega
        · rw [check_ok hA hm hs] at h
          have := congrArg Prod.fst h
          exact ⟨(congrArg Cfg.v this).symm, (congrArg Cfg.x this).symm, (congrArg Cfg.l this).symm, (congrArg Cfg.e this).symm, (congrArg Cfg.k this).symm⟩
  · rw [check_err hA he] at h
    have := congrArg Prod.snd h; simp only at this; omega
/-- One node more is counted, or not. -/
theorem cnt_next {P : Nat → Bool} {k : Nat} {b : Bool} (h : P (k + 1) = b) : bs P (k + 1) = if b = true then bs P k + 1 else bs P k := by
  cases b
  · simp [bs, h]
  · simp [bs, h]
end Go.Proofs.Ytihkkoldjllifaa
