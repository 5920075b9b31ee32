/- Parts of slices of bytes. -/
import Derived.Test.YtabiccpodnjieaaRoom
namespace Go.Proofs.Ytabiccpodnjieaa
open Go.ChangeShapes Go.WideShapes Go.ChangeAt Go.RowKit

/-- A part of a slice. -/
theorem part_len {xs : List Int} {m q : Nat} (hm : m + q ≤ xs.length) : ((xs.drop m).take q).length = q := by rw [List.length_take, List.length_drop]; omega
theorem Sl.part {B : Nat} {w : World} {p : Option Addr} {cap m q q' : Nat} {xs : List Int} (h : Sl B w (.slice p xs.length cap) 1 xs.length (byt xs)) (hm : m + q ≤ xs.length) (hq' : q' = q) : Sl B w (.slice (Option.map (fun x => x.add m) p) q' (cap - m)) 1 ((xs.drop m).take q).length (byt ((xs.drop m).take q)) := by
  rw [hq']
  have hlen := part_len hm
  rw [hlen]
  refine ⟨by rw [byt_len, hlen]; omega, ?_⟩
  rcases h.2 with ⟨h2, h3⟩ | ⟨ad, cap', h2, h3, h4, h5⟩
  · simp only [Value.slice.injEq] at h2
    obtain ⟨rfl, h2, rfl⟩ := h2
    obtain rfl : q = 0 := by omega
    exact .inl ⟨by simp, rfl⟩
  · simp only [Value.slice.injEq] at h2
    obtain ⟨rfl, -, rfl⟩ := h2
    refine .inr ⟨ad.add m, cap - m, rfl, by omega, by omega, fun hq => ?_⟩
    obtain ⟨g, o, rfl, h6, h7⟩ := h5 (by omega)
    rw [add_plain]
    refine ⟨g, o + m, rfl, h6, fun j hj => ?_⟩
    rw [Nat.add_assoc, h7 (m + j) (by omega), byt, byt, List.getElem?_map, List.getElem?_map, List.getElem?_take, if_pos (by omega), List.getElem?_drop]
theorem Sl.part0 {B : Nat} {w : World} {p : Option Addr} {cap m q q' c' : Nat} {xs : List Int} (h : Sl B w (.slice p xs.length cap) 1 xs.length (byt xs)) (hm : m + q ≤ xs.length) (hc : cap ≤ m) (hq' : q' = q) (hc' : c' = 0) : Sl B w (.slice p q' c') 1 ((xs.drop m).take q).length (byt ((xs.drop m).take q)) := by
  rw [hq', hc']
  have hlen := part_len hm
  rw [hlen]
  refine ⟨by rw [byt_len, hlen]; omega, ?_⟩
  rcases h.2 with ⟨h2, h3⟩ | ⟨ad, cap', h2, h3, h4, h5⟩
  · simp only [Value.slice.injEq] at h2
    obtain ⟨rfl, h2, rfl⟩ := h2
    obtain rfl : q = 0 := by omega
    exact .inl ⟨rfl, rfl⟩
  · simp only [Value.slice.injEq] at h2
    obtain ⟨rfl, -, rfl⟩ := h2
    obtain rfl : q = 0 := by omega
    exact .inr ⟨ad, 0, rfl, by omega, by unfold maxLen; omega, fun hq => absurd hq (by omega)⟩

theorem Sl.partA {B : Nat} {w : World} {g o cap m q q' : Nat} {xs : List Int} (h : Sl B w (.slice (some ⟨g, o, none⟩) xs.length cap) 1 xs.length (byt xs)) (hm : m + q ≤ xs.length) (hq' : q' = q) : Sl B w (.slice (some ⟨g, o + m, none⟩) q' (cap - m)) 1 ((xs.drop m).take q).length (byt ((xs.drop m).take q)) := by
  have := h.part hm hq'
  simp only [Option.map_some, add_plain] at this
  exact this
end Go.Proofs.Ytabiccpodnjieaa
