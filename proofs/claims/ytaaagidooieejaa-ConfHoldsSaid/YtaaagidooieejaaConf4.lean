/- Contracts of package conf, four: who elects, who commits. -/
import Derived.Test.YtaaagidooieejaaConf3
namespace Go.Proofs.Ytaaagidooieejaa
open Go.RowKit

set_option maxHeartbeats 1000000 in
theorem elects1_any (cv cx cl ce ck g : Int) (p : Addr) (w : World) (hp : w.cell? p = some (.int .u16 g)) :
    Calls Try.prog 53 #[.agg #[.int .u16 cv, .int .u16 cx, .int .u16 cl, .int .i64 ce, .int .i64 ck], .pointer (some p)] w fun r w' => r = .returned (.bool (electsC cv cx cl ce ck g)) ∧ Below w.heap.size w w' := by
  have hn0 := (bits_fit .and (bits .or .u16 cv cx) g).1
  have hlt := World.block_lt_of_cell? w p hp
  have hp1 : (w.alloc (.cells #[.int .u16 cv, .int .u16 cx, .int .u16 cl, .int .i64 ce, .int .i64 ck] 33)).cell? p = some (.int .u16 g) := ((below_box w _).cell hlt).trans hp
  go_enter Try.func53, Try.ntmps53
  go_wp2_with fail
  obtain ⟨U, f, hU, hf, hg⟩ := calm_class (w.alloc (.cells #[.int .u16 cv, .int .u16 cx, .int .u16 cl, .int .i64 ce, .int .i64 ck] 33))
  refine wp_region_calm f (by kernel_rfl) (by kernel_rfl) (hg _ (Below.refl _ _).drew) ?_
  have ka := calm_block hf (heap_last w (.cells #[.int .u16 cv, .int .u16 cx, .int .u16 cl, .int .i64 ce, .int .i64 ck] 33))
  have kp := calm_cell hf hp1
  repeat (go_big_quiet_step ((first | (go_at_call 49; exact calm_of hf hg (votes_any _ _ _ _ _ _)) | (go_at_call 12; refine calm_of hf hg (count_any _ _ hn0)))))
  refine wpQuiet_nil ?_
  rintro _ ⟨u1, rfl⟩
  go_wp2
  go_ret
  exact ⟨rfl, box_out (box_first (hf u1))⟩

set_option maxHeartbeats 1000000 in
theorem commits1_any (cv cx cl ce ck g : Int) (p : Addr) (w : World) (hp : w.cell? p = some (.int .u16 g)) :
    Calls Try.prog 54 #[.agg #[.int .u16 cv, .int .u16 cx, .int .u16 cl, .int .i64 ce, .int .i64 ck], .pointer (some p)] w fun r w' => r = .returned (.bool (commitsC cv cx cl ce ck g)) ∧ Below w.heap.size w w' := by
  have hn0 := (bits_fit .and (bits .or .u16 cv cx) g).1
  have hm0 := (bits_fit .and cv g).1
  have hlt := World.block_lt_of_cell? w p hp
  have hp1 : (w.alloc (.cells #[.int .u16 cv, .int .u16 cx, .int .u16 cl, .int .i64 ce, .int .i64 ck] 33)).cell? p = some (.int .u16 g) := ((below_box w _).cell hlt).trans hp
  by_cases hck : ck ≤ cnt (bits .and .u16 (bits .or .u16 cv cx) g)
  · have HD := Lib.hid hck
    go_enter Try.func54, Try.ntmps54
    go_wp2_with fail
    obtain ⟨U, f, hU, hf, hg⟩ := calm_class (w.alloc (.cells #[.int .u16 cv, .int .u16 cx, .int .u16 cl, .int .i64 ce, .int .i64 ck] 33))
    refine wp_region_calm f (by kernel_rfl) (by kernel_rfl) (hg _ (Below.refl _ _).drew) ?_
    have ka := calm_block hf (heap_last w (.cells #[.int .u16 cv, .int .u16 cx, .int .u16 cl, .int .i64 ce, .int .i64 ck] 33))
    have kp := calm_cell hf hp1
    repeat (go_big_quiet_step ((first | (go_at_call 49; exact calm_of hf hg (votes_any _ _ _ _ _ _)) | (go_at_call 12; refine calm_of hf hg (count_any _ _ ?_); first | exact hn0 | exact hm0))))
    refine wpQuiet_nil ?_
    rintro _ ⟨u1, rfl⟩
    go_wp2
    go_ret
    exact ⟨ret_bool (by simp [commitsC, HD.out]), box_out (box_first (hf u1))⟩
  · have HD := Lib.hid hck
    have hd : decide (ck ≤ cnt (bits .and .u16 (bits .or .u16 cv cx) g)) = false := by simpa using hck
    go_enter Try.func54, Try.ntmps54
    go_wp2_with fail
    obtain ⟨U, f, hU, hf, hg⟩ := calm_class (w.alloc (.cells #[.int .u16 cv, .int .u16 cx, .int .u16 cl, .int .i64 ce, .int .i64 ck] 33))
    refine wp_region_calm f (by kernel_rfl) (by kernel_rfl) (hg _ (Below.refl _ _).drew) ?_
    have ka := calm_block hf (heap_last w (.cells #[.int .u16 cv, .int .u16 cx, .int .u16 cl, .int .i64 ce, .int .i64 ck] 33))
    have kp := calm_cell hf hp1
    repeat (go_big_quiet_step ((first | (go_at_call 49; exact calm_of hf hg (votes_any _ _ _ _ _ _)) | (go_at_call 12; refine calm_of hf hg (count_any _ _ ?_); first | exact hn0 | exact hm0))))
    refine wpQuiet_nil ?_
    rintro _ ⟨u1, rfl⟩
    go_wp2
    go_ret
    exact ⟨ret_bool (by have h := HD.out; simp [commitsC]; omega), box_out (box_first (hf u1))⟩

set_option maxHeartbeats 1000000 in
theorem confElects_any (jov jox jol joe jok jnv jnx jnl jne jnk g : Int) (jt : Bool) (w : World) :
    Calls Try.prog 27 #[.agg #[.int .u16 jov, .int .u16 jox, .int .u16 jol, .int .i64 joe, .int .i64 jok, .int .u16 jnv, .int .u16 jnx, .int .u16 jnl, .int .i64 jne, .int .i64 jnk, .bool jt], .int .u16 g] w fun r w' => r = .returned (.bool (electsJ jov jox jol joe jok jnv jnx jnl jne jnk jt g)) ∧ Below w.heap.size w w' := by
  have hmf : ∀ (fn : Fn) (first cap : Array Value) (w : World), (Instr.makeFunc fn first cap).run Try.prog w = .ok (.func fn first cap) w := fun _ _ _ _ => rfl
  have hw2 : ((w.alloc (.cells #[.int .u16 jov, .int .u16 jox, .int .u16 jol, .int .i64 joe, .int .i64 jok, .int .u16 jnv, .int .u16 jnx, .int .u16 jnl, .int .i64 jne, .int .i64 jnk, .bool jt] 38)).alloc (.cells #[.int .u16 g] 23)).cell? ⟨w.heap.size + 1, 0, none⟩ = some (.int .u16 g) := by simp
  have KB : ∀ w' j, Below (w.heap.size + 2) ((w.alloc (.cells #[.int .u16 jov, .int .u16 jox, .int .u16 jol, .int .i64 joe, .int .i64 jok, .int .u16 jnv, .int .u16 jnx, .int .u16 jnl, .int .i64 jne, .int .i64 jnk, .bool jt] 38)).alloc (.cells #[.int .u16 g] 23)) w' → w'.cell? ⟨w.heap.size, j, none⟩ = ((w.alloc (.cells #[.int .u16 jov, .int .u16 jox, .int .u16 jol, .int .i64 joe, .int .i64 jok, .int .u16 jnv, .int .u16 jnx, .int .u16 jnl, .int .i64 jne, .int .i64 jnk, .bool jt] 38)).alloc (.cells #[.int .u16 g] 23)).cell? ⟨w.heap.size, j, none⟩ := fun _ _ h => h.cell (by simp)
  have KG : ∀ w', Below (w.heap.size + 2) ((w.alloc (.cells #[.int .u16 jov, .int .u16 jox, .int .u16 jol, .int .i64 joe, .int .i64 jok, .int .u16 jnv, .int .u16 jnx, .int .u16 jnl, .int .i64 jne, .int .i64 jnk, .bool jt] 38)).alloc (.cells #[.int .u16 g] 23)) w' → w'.cell? ⟨w.heap.size + 1, 0, none⟩ = some (.int .u16 g) := fun _ h => by rw [h.cell (by simp)]; exact hw2
  have HO := Lib.hid (below_box w (.cells #[.int .u16 jov, .int .u16 jox, .int .u16 jol, .int .i64 joe, .int .i64 jok, .int .u16 jnv, .int .u16 jnx, .int .u16 jnl, .int .i64 jne, .int .i64 jnk, .bool jt] 38))
  have fin : ∀ w', Below (w.heap.size + 2) ((w.alloc (.cells #[.int .u16 jov, .int .u16 jox, .int .u16 jol, .int .i64 joe, .int .i64 jok, .int .u16 jnv, .int .u16 jnx, .int .u16 jnl, .int .i64 jne, .int .i64 jnk, .bool jt] 38)).alloc (.cells #[.int .u16 g] 23)) w' → Below w.heap.size w w' := fun w' h => HO.out.trans (((below_box _ _).mono (by simp)).trans (h.mono (by omega)))
  have FIN := Lib.hid fin
  clear fin
  cases ho : electsC jov jox jol joe jok g
  · have HE := Lib.hid ho
    clear ho
    go_enter Try.func27, Try.ntmps27
    go_wp2_with fail
    refine (elects1_any _ _ _ _ _ _ _ _ hw2).mono ?_; rintro r w1 ⟨rfl, hb⟩; rw [HE.out]; simp only [World.size_alloc] at hb
    go_wp2_with fail
    go_ret
    exact ⟨ret_bool (by simp [electsJ, HE.out]), FIN.out _ hb⟩
  · have HE := Lib.hid ho
    clear ho
    cases jt
    · go_enter Try.func27, Try.ntmps27
      go_wp2_with fail
      refine (elects1_any _ _ _ _ _ _ _ _ hw2).mono ?_; rintro r w1 ⟨rfl, hb⟩; rw [HE.out]; simp only [World.size_alloc] at hb
      go_wp2_with fail
      go_ret
      exact ⟨ret_bool (by simp [electsJ, HE.out]), FIN.out _ hb⟩
    · go_enter Try.func27, Try.ntmps27
      go_wp2_with fail
      refine (elects1_any _ _ _ _ _ _ _ _ hw2).mono ?_; rintro r w1 ⟨rfl, hb⟩; rw [HE.out]; simp only [World.size_alloc] at hb
      go_wp2_with fail
      refine (elects1_any _ _ _ _ _ _ _ _ (KG _ hb)).mono ?_; rintro r w2 ⟨rfl, hb2⟩; replace hb2 := hb.trans (hb2.mono (by have := hb.size; simpa using this))
      go_wp2_with fail
      go_ret
      exact ⟨ret_bool (by simp [electsJ, HE.out]), FIN.out _ hb2⟩

set_option maxHeartbeats 1000000 in
theorem confCommits_any (jov jox jol joe jok jnv jnx jnl jne jnk g : Int) (jt : Bool) (w : World) :
    Calls Try.prog 28 #[.agg #[.int .u16 jov, .int .u16 jox, .int .u16 jol, .int .i64 joe, .int .i64 jok, .int .u16 jnv, .int .u16 jnx, .int .u16 jnl, .int .i64 jne, .int .i64 jnk, .bool jt], .int .u16 g] w fun r w' => r = .returned (.bool (commitsJ jov jox jol joe jok jnv jnx jnl jne jnk jt g)) ∧ Below w.heap.size w w' := by
  have hmf : ∀ (fn : Fn) (first cap : Array Value) (w : World), (Instr.makeFunc fn first cap).run Try.prog w = .ok (.func fn first cap) w := fun _ _ _ _ => rfl
  have hw2 : ((w.alloc (.cells #[.int .u16 jov, .int .u16 jox, .int .u16 jol, .int .i64 joe, .int .i64 jok, .int .u16 jnv, .int .u16 jnx, .int .u16 jnl, .int .i64 jne, .int .i64 jnk, .bool jt] 38)).alloc (.cells #[.int .u16 g] 23)).cell? ⟨w.heap.size + 1, 0, none⟩ = some (.int .u16 g) := by simp
  have KB : ∀ w' j, Below (w.heap.size + 2) ((w.alloc (.cells #[.int .u16 jov, .int .u16 jox, .int .u16 jol, .int .i64 joe, .int .i64 jok, .int .u16 jnv, .int .u16 jnx, .int .u16 jnl, .int .i64 jne, .int .i64 jnk, .bool jt] 38)).alloc (.cells #[.int .u16 g] 23)) w' → w'.cell? ⟨w.heap.size, j, none⟩ = ((w.alloc (.cells #[.int .u16 jov, .int .u16 jox, .int .u16 jol, .int .i64 joe, .int .i64 jok, .int .u16 jnv, .int .u16 jnx, .int .u16 jnl, .int .i64 jne, .int .i64 jnk, .bool jt] 38)).alloc (.cells #[.int .u16 g] 23)).cell? ⟨w.heap.size, j, none⟩ := fun _ _ h => h.cell (by simp)
  have KG : ∀ w', Below (w.heap.size + 2) ((w.alloc (.cells #[.int .u16 jov, .int .u16 jox, .int .u16 jol, .int .i64 joe, .int .i64 jok, .int .u16 jnv, .int .u16 jnx, .int .u16 jnl, .int .i64 jne, .int .i64 jnk, .bool jt] 38)).alloc (.cells #[.int .u16 g] 23)) w' → w'.cell? ⟨w.heap.size + 1, 0, none⟩ = some (.int .u16 g) := fun _ h => by rw [h.cell (by simp)]; exact hw2
  have HO := Lib.hid (below_box w (.cells #[.int .u16 jov, .int .u16 jox, .int .u16 jol, .int .i64 joe, .int .i64 jok, .int .u16 jnv, .int .u16 jnx, .int .u16 jnl, .int .i64 jne, .int .i64 jnk, .bool jt] 38))
  have fin : ∀ w', Below (w.heap.size + 2) ((w.alloc (.cells #[.int .u16 jov, .int .u16 jox, .int .u16 jol, .int .i64 joe, .int .i64 jok, .int .u16 jnv, .int .u16 jnx, .int .u16 jnl, .int .i64 jne, .int .i64 jnk, .bool jt] 38)).alloc (.cells #[.int .u16 g] 23)) w' → Below w.heap.size w w' := fun w' h => HO.out.trans (((below_box _ _).mono (by simp)).trans (h.mono (by omega)))
  have FIN := Lib.hid fin
  clear fin
  cases ho : commitsC jov jox jol joe jok g
  · have HE := Lib.hid ho
    clear ho
    go_enter Try.func28, Try.ntmps28
    go_wp2_with fail
    refine (commits1_any _ _ _ _ _ _ _ _ hw2).mono ?_; rintro r w1 ⟨rfl, hb⟩; rw [HE.out]; simp only [World.size_alloc] at hb
    go_wp2_with fail
    go_ret
    exact ⟨ret_bool (by simp [commitsJ, HE.out]), FIN.out _ hb⟩
  · have HE := Lib.hid ho
    clear ho
    cases jt
    · go_enter Try.func28, Try.ntmps28
      go_wp2_with fail
      refine (commits1_any _ _ _ _ _ _ _ _ hw2).mono ?_; rintro r w1 ⟨rfl, hb⟩; rw [HE.out]; simp only [World.size_alloc] at hb
      go_wp2_with fail
      go_ret
      exact ⟨ret_bool (by simp [commitsJ, HE.out]), FIN.out _ hb⟩
    · go_enter Try.func28, Try.ntmps28
      go_wp2_with fail
      refine (commits1_any _ _ _ _ _ _ _ _ hw2).mono ?_; rintro r w1 ⟨rfl, hb⟩; rw [HE.out]; simp only [World.size_alloc] at hb
      go_wp2_with fail
      refine (commits1_any _ _ _ _ _ _ _ _ (KG _ hb)).mono ?_; rintro r w2 ⟨rfl, hb2⟩; replace hb2 := hb.trans (hb2.mono (by have := hb.size; simpa using this))
      go_wp2_with fail
      go_ret
      exact ⟨ret_bool (by simp [commitsJ, HE.out]), FIN.out _ hb2⟩
theorem confElects_is (jov jox jol joe jok jnv jnx jnl jne jnk g : Int) (jt : Bool) (w : World) {b : Bool} (h : electsJ jov jox jol joe jok jnv jnx jnl jne jnk jt g = b) :
    Calls Try.prog 27 #[.agg #[.int .u16 jov, .int .u16 jox, .int .u16 jol, .int .i64 joe, .int .i64 jok, .int .u16 jnv, .int .u16 jnx, .int .u16 jnl, .int .i64 jne, .int .i64 jnk, .bool jt], .int .u16 g] w fun r w' => r = .returned (.bool b) ∧ Below w.heap.size w w' := by
  subst h; exact confElects_any jov jox jol joe jok jnv jnx jnl jne jnk g jt w
theorem confCommits_is (jov jox jol joe jok jnv jnx jnl jne jnk g : Int) (jt : Bool) (w : World) {b : Bool} (h : commitsJ jov jox jol joe jok jnv jnx jnl jne jnk jt g = b) :
    Calls Try.prog 28 #[.agg #[.int .u16 jov, .int .u16 jox, .int .u16 jol, .int .i64 joe, .int .i64 jok, .int .u16 jnv, .int .u16 jnx, .int .u16 jnl, .int .i64 jne, .int .i64 jnk, .bool jt], .int .u16 g] w fun r w' => r = .returned (.bool b) ∧ Below w.heap.size w w' := by
  subst h; exact confCommits_any jov jox jol joe jok jnv jnx jnl jne jnk g jt w
end Go.Proofs.Ytaaagidooieejaa
