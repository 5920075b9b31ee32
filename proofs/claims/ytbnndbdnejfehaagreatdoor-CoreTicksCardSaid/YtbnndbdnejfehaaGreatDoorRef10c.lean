import Derived.Test.YtbnndbdnejfehaaGreatDoorConf3
/- Contracts of package conf, four: who elects, who commits. -/
namespace Go.Proofs.YtbnndbdnejfehaaGreatDoor
open Go.RowKit

set_option maxRecDepth 100000 in
set_option maxHeartbeats 1000000 in
theorem elects1_any (cv cx cl ce ck g : Int) (p : Addr) (w : World) (hp : w.cell? p = some (.int .u16 g)) :
    Calls Tryz.prog 92 #[.agg #[.int .u16 cv, .int .u16 cx, .int .u16 cl, .int .i64 ce, .int .i64 ck], .pointer (some p)] w fun r w' => r = .returned (.bool (electsC cv cx cl ce ck g)) ∧ Below w.heap.size w w' := by
  have hn0 := (bits_fit .and (bits .or .u16 cv cx) g).1
  have hlt := World.block_lt_of_cell? w p hp
  have hp1 : (w.alloc (.cells #[.int .u16 cv, .int .u16 cx, .int .u16 cl, .int .i64 ce, .int .i64 ck] 25)).cell? p = some (.int .u16 g) := ((below_box w _).cell hlt).trans hp
  go_enter Tryz.func92, Tryz.ntmps92
  go_wp2_with fail
  obtain ⟨U, f, hU, hf, hg⟩ := calm_class (w.alloc (.cells #[.int .u16 cv, .int .u16 cx, .int .u16 cl, .int .i64 ce, .int .i64 ck] 25))
  refine wp_region_calm f (by kernel_rfl) (by kernel_rfl) (hg _ (Below.refl _ _).drew) ?_
  have ka := calm_block hf (heap_last w (.cells #[.int .u16 cv, .int .u16 cx, .int .u16 cl, .int .i64 ce, .int .i64 ck] 25))
  have kp := calm_cell hf hp1
  repeat (go_big_quiet_step ((first | (go_at_call 94; exact calm_of hf hg (votes_any _ _ _ _ _ _)) | (go_at_call 93; refine calm_of hf hg (count_any _ _ hn0)))))
  refine wpQuiet_nil ?_
  rintro _ ⟨u1, rfl⟩
  go_wp2
  go_ret
  exact ⟨rfl, box_out (box_first (hf u1))⟩

set_option maxRecDepth 100000 in
set_option maxHeartbeats 1000000 in
theorem commits1_any (cv cx cl ce ck g : Int) (p : Addr) (w : World) (hp : w.cell? p = some (.int .u16 g)) :
    Calls Tryz.prog 148 #[.agg #[.int .u16 cv, .int .u16 cx, .int .u16 cl, .int .i64 ce, .int .i64 ck], .pointer (some p)] w fun r w' => r = .returned (.bool (commitsC cv cx cl ce ck g)) ∧ Below w.heap.size w w' := by
  have hn0 := (bits_fit .and (bits .or .u16 cv cx) g).1
  have hm0 := (bits_fit .and cv g).1
  have hlt := World.block_lt_of_cell? w p hp
  have hp1 : (w.alloc (.cells #[.int .u16 cv, .int .u16 cx, .int .u16 cl, .int .i64 ce, .int .i64 ck] 25)).cell? p = some (.int .u16 g) := ((below_box w _).cell hlt).trans hp
  by_cases hck : ck ≤ cnt (bits .and .u16 (bits .or .u16 cv cx) g)
  · have HD := Lib.hid hck
    go_enter Tryz.func148, Tryz.ntmps148
    go_wp2_with fail
    obtain ⟨U, f, hU, hf, hg⟩ := calm_class (w.alloc (.cells #[.int .u16 cv, .int .u16 cx, .int .u16 cl, .int .i64 ce, .int .i64 ck] 25))
    refine wp_region_calm f (by kernel_rfl) (by kernel_rfl) (hg _ (Below.refl _ _).drew) ?_
    have ka := calm_block hf (heap_last w (.cells #[.int .u16 cv, .int .u16 cx, .int .u16 cl, .int .i64 ce, .int .i64 ck] 25))
    have kp := calm_cell hf hp1
    repeat (go_big_quiet_step ((first | (go_at_call 94; exact calm_of hf hg (votes_any _ _ _ _ _ _)) | (go_at_call 93; refine calm_of hf hg (count_any _ _ ?_); first | exact hn0 | exact hm0))))
    refine wpQuiet_nil ?_
    rintro _ ⟨u1, rfl⟩
    go_wp2
    go_ret
    exact ⟨ret_boolS (by simp [commitsC, HD.out]), box_out (box_first (hf u1))⟩
  · have HD := Lib.hid hck
    have hd : decide (ck ≤ cnt (bits .and .u16 (bits .or .u16 cv cx) g)) = false := by simpa using hck
    go_enter Tryz.func148, Tryz.ntmps148
    go_wp2_with fail
    obtain ⟨U, f, hU, hf, hg⟩ := calm_class (w.alloc (.cells #[.int .u16 cv, .int .u16 cx, .int .u16 cl, .int .i64 ce, .int .i64 ck] 25))
    refine wp_region_calm f (by kernel_rfl) (by kernel_rfl) (hg _ (Below.refl _ _).drew) ?_
    have ka := calm_block hf (heap_last w (.cells #[.int .u16 cv, .int .u16 cx, .int .u16 cl, .int .i64 ce, .int .i64 ck] 25))
    have kp := calm_cell hf hp1
    repeat (go_big_quiet_step ((first | (go_at_call 94; exact calm_of hf hg (votes_any _ _ _ _ _ _)) | (go_at_call 93; refine calm_of hf hg (count_any _ _ ?_); first | exact hn0 | exact hm0))))
    refine wpQuiet_nil ?_
    rintro _ ⟨u1, rfl⟩
    go_wp2
    go_ret
    exact ⟨ret_boolS (by have h := HD.out; simp [commitsC]; omega), box_out (box_first (hf u1))⟩

set_option maxRecDepth 100000 in
set_option maxHeartbeats 1000000 in
theorem confElects_any (jov jox jol joe jok jnv jnx jnl jne jnk g : Int) (jt : Bool) (w : World) :
    Calls Tryz.prog 41 #[.agg #[.int .u16 jov, .int .u16 jox, .int .u16 jol, .int .i64 joe, .int .i64 jok, .int .u16 jnv, .int .u16 jnx, .int .u16 jnl, .int .i64 jne, .int .i64 jnk, .bool jt], .int .u16 g] w fun r w' => r = .returned (.bool (electsJ jov jox jol joe jok jnv jnx jnl jne jnk jt g)) ∧ Below w.heap.size w w' := by
  have hmf : ∀ (fn : Fn) (first cap : Array Value) (w : World), (Instr.makeFunc fn first cap).run Tryz.prog w = .ok (.func fn first cap) w := fun _ _ _ _ => rfl
  have hw2 : ((w.alloc (.cells #[.int .u16 jov, .int .u16 jox, .int .u16 jol, .int .i64 joe, .int .i64 jok, .int .u16 jnv, .int .u16 jnx, .int .u16 jnl, .int .i64 jne, .int .i64 jnk, .bool jt] 27)).alloc (.cells #[.int .u16 g] 23)).cell? ⟨w.heap.size + 1, 0, none⟩ = some (.int .u16 g) := by simp
  have KB : ∀ w' j, Below (w.heap.size + 2) ((w.alloc (.cells #[.int .u16 jov, .int .u16 jox, .int .u16 jol, .int .i64 joe, .int .i64 jok, .int .u16 jnv, .int .u16 jnx, .int .u16 jnl, .int .i64 jne, .int .i64 jnk, .bool jt] 27)).alloc (.cells #[.int .u16 g] 23)) w' → w'.cell? ⟨w.heap.size, j, none⟩ = ((w.alloc (.cells #[.int .u16 jov, .int .u16 jox, .int .u16 jol, .int .i64 joe, .int .i64 jok, .int .u16 jnv, .int .u16 jnx, .int .u16 jnl, .int .i64 jne, .int .i64 jnk, .bool jt] 27)).alloc (.cells #[.int .u16 g] 23)).cell? ⟨w.heap.size, j, none⟩ := fun _ _ h => h.cell (by simp)
  have KG : ∀ w', Below (w.heap.size + 2) ((w.alloc (.cells #[.int .u16 jov, .int .u16 jox, .int .u16 jol, .int .i64 joe, .int .i64 jok, .int .u16 jnv, .int .u16 jnx, .int .u16 jnl, .int .i64 jne, .int .i64 jnk, .bool jt] 27)).alloc (.cells #[.int .u16 g] 23)) w' → w'.cell? ⟨w.heap.size + 1, 0, none⟩ = some (.int .u16 g) := fun _ h => by rw [h.cell (by simp)]; exact hw2
  have HO := Lib.hid (below_box w (.cells #[.int .u16 jov, .int .u16 jox, .int .u16 jol, .int .i64 joe, .int .i64 jok, .int .u16 jnv, .int .u16 jnx, .int .u16 jnl, .int .i64 jne, .int .i64 jnk, .bool jt] 27))
  have fin : ∀ w', Below (w.heap.size + 2) ((w.alloc (.cells #[.int .u16 jov, .int .u16 jox, .int .u16 jol, .int .i64 joe, .int .i64 jok, .int .u16 jnv, .int .u16 jnx, .int .u16 jnl, .int .i64 jne, .int .i64 jnk, .bool jt] 27)).alloc (.cells #[.int .u16 g] 23)) w' → Below w.heap.size w w' := fun w' h => HO.out.trans (((below_box _ _).mono (by simp)).trans (h.mono (by omega)))
  have FIN := Lib.hid fin
  clear fin
  cases ho : electsC jov jox jol joe jok g
  · have HE := Lib.hid ho
    clear ho
    go_enter Tryz.func41, Tryz.ntmps41
    go_wp2_with fail
    refine (elects1_any _ _ _ _ _ _ _ _ hw2).mono ?_; rintro r w1 ⟨rfl, hb⟩; rw [HE.out]; simp only [World.size_alloc] at hb
    go_wp2_with fail
    go_ret
    exact ⟨ret_boolS (by simp [electsJ, HE.out]), FIN.out _ hb⟩
  · have HE := Lib.hid ho
    clear ho
    cases jt
    · go_enter Tryz.func41, Tryz.ntmps41
      go_wp2_with fail
      refine (elects1_any _ _ _ _ _ _ _ _ hw2).mono ?_; rintro r w1 ⟨rfl, hb⟩; rw [HE.out]; simp only [World.size_alloc] at hb
      go_wp2_with fail
      go_ret
      exact ⟨ret_boolS (by simp [electsJ, HE.out]), FIN.out _ hb⟩
    · go_enter Tryz.func41, Tryz.ntmps41
      go_wp2_with fail
      refine (elects1_any _ _ _ _ _ _ _ _ hw2).mono ?_; rintro r w1 ⟨rfl, hb⟩; rw [HE.out]; simp only [World.size_alloc] at hb
      go_wp2_with fail
      refine (elects1_any _ _ _ _ _ _ _ _ (KG _ hb)).mono ?_; rintro r w2 ⟨rfl, hb2⟩; replace hb2 := hb.trans (hb2.mono (by have := hb.size; simpa using this))
      go_wp2_with fail
      go_ret
      exact ⟨ret_boolS (by simp [electsJ, HE.out]), FIN.out _ hb2⟩

set_option maxRecDepth 100000 in
set_option maxHeartbeats 1000000 in
theorem confCommits_any (jov jox jol joe jok jnv jnx jnl jne jnk g : Int) (jt : Bool) (w : World) :
    Calls Tryz.prog 116 #[.agg #[.int .u16 jov, .int .u16 jox, .int .u16 jol, .int .i64 joe, .int .i64 jok, .int .u16 jnv, .int .u16 jnx, .int .u16 jnl, .int .i64 jne, .int .i64 jnk, .bool jt], .int .u16 g] w fun r w' => r = .returned (.bool (commitsJ jov jox jol joe jok jnv jnx jnl jne jnk jt g)) ∧ Below w.heap.size w w' := by
  have hmf : ∀ (fn : Fn) (first cap : Array Value) (w : World), (Instr.makeFunc fn first cap).run Tryz.prog w = .ok (.func fn first cap) w := fun _ _ _ _ => rfl
  have hw2 : ((w.alloc (.cells #[.int .u16 jov, .int .u16 jox, .int .u16 jol, .int .i64 joe, .int .i64 jok, .int .u16 jnv, .int .u16 jnx, .int .u16 jnl, .int .i64 jne, .int .i64 jnk, .bool jt] 27)).alloc (.cells #[.int .u16 g] 23)).cell? ⟨w.heap.size + 1, 0, none⟩ = some (.int .u16 g) := by simp
  have KB : ∀ w' j, Below (w.heap.size + 2) ((w.alloc (.cells #[.int .u16 jov, .int .u16 jox, .int .u16 jol, .int .i64 joe, .int .i64 jok, .int .u16 jnv, .int .u16 jnx, .int .u16 jnl, .int .i64 jne, .int .i64 jnk, .bool jt] 27)).alloc (.cells #[.int .u16 g] 23)) w' → w'.cell? ⟨w.heap.size, j, none⟩ = ((w.alloc (.cells #[.int .u16 jov, .int .u16 jox, .int .u16 jol, .int .i64 joe, .int .i64 jok, .int .u16 jnv, .int .u16 jnx, .int .u16 jnl, .int .i64 jne, .int .i64 jnk, .bool jt] 27)).alloc (.cells #[.int .u16 g] 23)).cell? ⟨w.heap.size, j, none⟩ := fun _ _ h => h.cell (by simp)
  have KG : ∀ w', Below (w.heap.size + 2) ((w.alloc (.cells #[.int .u16 jov, .int .u16 jox, .int .u16 jol, .int .i64 joe, .int .i64 jok, .int .u16 jnv, .int .u16 jnx, .int .u16 jnl, .int .i64 jne, .int .i64 jnk, .bool jt] 27)).alloc (.cells #[.int .u16 g] 23)) w' → w'.cell? ⟨w.heap.size + 1, 0, none⟩ = some (.int .u16 g) := fun _ h => by rw [h.cell (by simp)]; exact hw2
  have HO := Lib.hid (below_box w (.cells #[.int .u16 jov, .int .u16 jox, .int .u16 jol, .int .i64 joe, .int .i64 jok, .int .u16 jnv, .int .u16 jnx, .int .u16 jnl, .int .i64 jne, .int .i64 jnk, .bool jt] 27))
  have fin : ∀ w', Below (w.heap.size + 2) ((w.alloc (.cells #[.int .u16 jov, .int .u16 jox, .int .u16 jol, .int .i64 joe, .int .i64 jok, .int .u16 jnv, .int .u16 jnx, .int .u16 jnl, .int .i64 jne, .int .i64 jnk, .bool jt] 27)).alloc (.cells #[.int .u16 g] 23)) w' → Below w.heap.size w w' := fun w' h => HO.out.trans (((below_box _ _).mono (by simp)).trans (h.mono (by omega)))
  have FIN := Lib.hid fin
  clear fin
  cases ho : commitsC jov jox jol joe jok g
  · have HE := Lib.hid ho
    clear ho
    go_enter Tryz.func116, Tryz.ntmps116
    go_wp2_with fail
    refine (commits1_any _ _ _ _ _ _ _ _ hw2).mono ?_; rintro r w1 ⟨rfl, hb⟩; rw [HE.out]; simp only [World.size_alloc] at hb
    go_wp2_with fail
    go_ret
    exact ⟨ret_boolS (by simp [commitsJ, HE.out]), FIN.out _ hb⟩
  · have HE := Lib.hid ho
    clear ho
    cases jt
    · go_enter Tryz.func116, Tryz.ntmps116
      go_wp2_with fail
      refine (commits1_any _ _ _ _ _ _ _ _ hw2).mono ?_; rintro r w1 ⟨rfl, hb⟩; rw [HE.out]; simp only [World.size_alloc] at hb
      go_wp2_with fail
      go_ret
      exact ⟨ret_boolS (by simp [commitsJ, HE.out]), FIN.out _ hb⟩
    · go_enter Tryz.func116, Tryz.ntmps116
      go_wp2_with fail
      refine (commits1_any _ _ _ _ _ _ _ _ hw2).mono ?_; rintro r w1 ⟨rfl, hb⟩; rw [HE.out]; simp only [World.size_alloc] at hb
      go_wp2_with fail
      refine (commits1_any _ _ _ _ _ _ _ _ (KG _ hb)).mono ?_; rintro r w2 ⟨rfl, hb2⟩; replace hb2 := hb.trans (hb2.mono (by have := hb.size; simpa using this))
      go_wp2_with fail
      go_ret
      exact ⟨ret_boolS (by simp [commitsJ, HE.out]), FIN.out _ hb2⟩
end Go.Proofs.YtbnndbdnejfehaaGreatDoor
/- Contracts of package conf, five: changes. -/
namespace Go.Proofs.YtbnndbdnejfehaaGreatDoor
open Go.RowKit

set_option maxRecDepth 100000 in
set_option maxHeartbeats 1000000 in
theorem confFinal_any (jov jox jol joe jok jnv jnx jnl jne jnk : Int) (jt : Bool) (w : World) :
    Calls Tryz.prog 130 #[.agg #[.int .u16 jov, .int .u16 jox, .int .u16 jol, .int .i64 joe, .int .i64 jok, .int .u16 jnv, .int .u16 jnx, .int .u16 jnl, .int .i64 jne, .int .i64 jnk, .bool jt]] w fun r w' =>
      r = .returned (if jt then .agg #[.int .u16 jnv, .int .u16 jnx, .int .u16 jnl, .int .i64 jne, .int .i64 jnk, .int .u16 0, .int .u16 0, .int .u16 0, .int .i64 0, .int .i64 0, .bool false] else .agg #[.int .u16 jov, .int .u16 jox, .int .u16 jol, .int .i64 joe, .int .i64 jok, .int .u16 jnv, .int .u16 jnx, .int .u16 jnl, .int .i64 jne, .int .i64 jnk, .bool jt]) ∧ Below w.heap.size w w' := by
  cases jt
  · go_enter Tryz.func130, Tryz.ntmps130
    go_wp2_with fail
    refine bodyPost_ret (v := .agg #[.int .u16 jov, .int .u16 jox, .int .u16 jol, .int .i64 joe, .int .i64 jok, .int .u16 jnv, .int .u16 jnx, .int .u16 jnl, .int .i64 jne, .int .i64 jnk, .bool false]) (by simp [results, Tryz.results130, go_sem]) rfl ⟨rfl, ?_⟩
    exact (below_box w _).trans ((below_box _ _).mono (by simp))
  · go_enter Tryz.func130, Tryz.ntmps130
    go_wp2_with fail
    refine bodyPost_ret (v := .agg #[.int .u16 jnv, .int .u16 jnx, .int .u16 jnl, .int .i64 jne, .int .i64 jnk, .int .u16 0, .int .u16 0, .int .u16 0, .int .i64 0, .int .i64 0, .bool false]) (by simp [results, Tryz.results130, go_sem]) rfl ⟨rfl, ?_⟩
    exact (below_box w _).trans ((below_box _ _).mono (by simp))
end Go.Proofs.YtbnndbdnejfehaaGreatDoor
/- Contracts of the reference of conf. -/
namespace Go.Proofs.YtbnndbdnejfehaaGreatDoor
open Go.RowKit

set_option maxRecDepth 100000 in
set_option maxHeartbeats 400000 in
theorem refVotes_any (cv cx cl ce ck : Int) (fc : FitC cv cx cl) (w : World) :
    Calls Tryz.prog 107 #[.agg #[.int .u16 cv, .int .u16 cx, .int .u16 cl, .int .i64 ce, .int .i64 ck]] w fun r w' => r = .returned (.int .u16 (joinB cv cx)) ∧ Below w.heap.size w w' := by
  go_enter Tryz.func107, Tryz.ntmps107
  go_wp2_with (go_at_call 125; refine (refJoin_any _ _ _ fc.v0 fc.v1 fc.x0 fc.x1).mono ?_; rintro r w' ⟨rfl, rfl⟩)
  go_ret
  exact ⟨rfl, below_box _ _⟩

set_option maxRecDepth 100000 in
set_option maxHeartbeats 4000000 in
theorem refMay10_any (cv cx cl ce ck : Int) (fc : FitC cv cx cl) (w : World) :
    Calls Tryz.prog 140 #[.agg #[.int .u16 cv, .int .u16 cx, .int .u16 cl, .int .i64 ce, .int .i64 ck]] w fun r w' => r = .returned (.bool (mayC cv cx cl ce ck)) ∧ Below w.heap.size w w' := by
  rw [← may_same cv cx cl ce ck fc]
  have fv0 := fc.v0; have fv1 := fc.v1; have fx0 := fc.x0; have fx1 := fc.x1; have fl0 := fc.l0; have fl1 := fc.l1
  obtain ⟨j0, j1⟩ := joinB_fit cv cx
  obtain ⟨a0, a1⟩ := joinB_fit (joinB cv cx) cl
  obtain ⟨n0, n1⟩ := cnt_nonneg (joinB cv cx)
  obtain ⟨p0, p1⟩ := cnt_nonneg cv
  obtain ⟨q0, q1⟩ := cnt_nonneg cx
  obtain ⟨s0, s1⟩ := cnt_nonneg cl
  cases hv : mayB cv
  · have HV := Lib.hid hv; clear hv
    go_enter Tryz.func140, Tryz.ntmps140
    go_wp2_with fail
    obtain ⟨U, f, hU, hf, hg⟩ := calm_class (w.alloc (.cells #[.int .u16 cv, .int .u16 cx, .int .u16 cl, .int .i64 ce, .int .i64 ck] 25)); obtain ⟨u0, hu0⟩ := hg _ (Below.refl _ _); rw [hu0]; clear hu0
    have kA := calm_block hf (heap_last w (.cells #[.int .u16 cv, .int .u16 cx, .int .u16 cl, .int .i64 ce, .int .i64 ck] 25))
    refine (refMay_any cv _ fv0 fv1).mono ?_; rintro r w' ⟨rfl, hb⟩; obtain ⟨u, rfl⟩ := calm_step hf hg hb; clear hb; rw [HV.out]
    go_wp2_with fail
    go_ret
    exact ⟨ret_boolS (by simp [refMayC, HV.out]), box_out (box_first (hf _))⟩
  have HV := Lib.hid hv; clear hv
  cases hx : mayB cx
  · have HX := Lib.hid hx; clear hx
    go_enter Tryz.func140, Tryz.ntmps140
    go_wp2_with fail
    obtain ⟨U, f, hU, hf, hg⟩ := calm_class (w.alloc (.cells #[.int .u16 cv, .int .u16 cx, .int .u16 cl, .int .i64 ce, .int .i64 ck] 25)); obtain ⟨u0, hu0⟩ := hg _ (Below.refl _ _); rw [hu0]; clear hu0
    have kA := calm_block hf (heap_last w (.cells #[.int .u16 cv, .int .u16 cx, .int .u16 cl, .int .i64 ce, .int .i64 ck] 25))
    refine (refMay_any cv _ fv0 fv1).mono ?_; rintro r w' ⟨rfl, hb⟩; obtain ⟨u, rfl⟩ := calm_step hf hg hb; clear hb; rw [HV.out]
    go_wp2_with fail
    refine (refMay_any cx _ fx0 fx1).mono ?_; rintro r w' ⟨rfl, hb⟩; obtain ⟨u, rfl⟩ := calm_step hf hg hb; clear hb; rw [HX.out]
    go_wp2_with fail
    go_ret
    exact ⟨ret_boolS (by simp [refMayC, HV.out, HX.out]), box_out (box_first (hf _))⟩
  have HX := Lib.hid hx; clear hx
  cases hl : mayB cl
  · have HL := Lib.hid hl; clear hl
    go_enter Tryz.func140, Tryz.ntmps140
    go_wp2_with fail
    obtain ⟨U, f, hU, hf, hg⟩ := calm_class (w.alloc (.cells #[.int .u16 cv, .int .u16 cx, .int .u16 cl, .int .i64 ce, .int .i64 ck] 25)); obtain ⟨u0, hu0⟩ := hg _ (Below.refl _ _); rw [hu0]; clear hu0
    have kA := calm_block hf (heap_last w (.cells #[.int .u16 cv, .int .u16 cx, .int .u16 cl, .int .i64 ce, .int .i64 ck] 25))
    refine (refMay_any cv _ fv0 fv1).mono ?_; rintro r w' ⟨rfl, hb⟩; obtain ⟨u, rfl⟩ := calm_step hf hg hb; clear hb; rw [HV.out]
    go_wp2_with fail
    refine (refMay_any cx _ fx0 fx1).mono ?_; rintro r w' ⟨rfl, hb⟩; obtain ⟨u, rfl⟩ := calm_step hf hg hb; clear hb; rw [HX.out]
    go_wp2_with fail
    refine (refMay_any cl _ fl0 fl1).mono ?_; rintro r w' ⟨rfl, hb⟩; obtain ⟨u, rfl⟩ := calm_step hf hg hb; clear hb; rw [HL.out]
    go_wp2_with fail
    go_ret
    exact ⟨ret_boolS (by simp [refMayC, HV.out, HX.out, HL.out]), box_out (box_first (hf _))⟩
  have HL := Lib.hid hl; clear hl
  cases hs : (cnt (joinB (joinB cv cx) cl) == cnt cv + cnt cx + cnt cl) <;> cases hz : (cnt cv == 0)
  all_goals
    have hs' : (cnt (joinB (joinB cv cx) cl) != cnt cv + cnt cx + cnt cl) = !(cnt (joinB (joinB cv cx) cl) == cnt cv + cnt cx + cnt cl) := rfl
    rw [hs] at hs'
    have HS := Lib.hid hs; have HZ := Lib.hid hz
    go_enter Tryz.func140, Tryz.ntmps140
    go_wp2_with fail
    obtain ⟨U, f, hU, hf, hg⟩ := calm_class (w.alloc (.cells #[.int .u16 cv, .int .u16 cx, .int .u16 cl, .int .i64 ce, .int .i64 ck] 25)); obtain ⟨u0, hu0⟩ := hg _ (Below.refl _ _); rw [hu0]; clear hu0
    have kA := calm_block hf (heap_last w (.cells #[.int .u16 cv, .int .u16 cx, .int .u16 cl, .int .i64 ce, .int .i64 ck] 25))
    refine (refMay_any cv _ fv0 fv1).mono ?_; rintro r w' ⟨rfl, hb⟩; obtain ⟨u, rfl⟩ := calm_step hf hg hb; clear hb; rw [HV.out]
    go_wp2_with fail
    refine (refMay_any cx _ fx0 fx1).mono ?_; rintro r w' ⟨rfl, hb⟩; obtain ⟨u, rfl⟩ := calm_step hf hg hb; clear hb; rw [HX.out]
    go_wp2_with fail
    refine (refMay_any cl _ fl0 fl1).mono ?_; rintro r w' ⟨rfl, hb⟩; obtain ⟨u, rfl⟩ := calm_step hf hg hb; clear hb; rw [HL.out]
    go_wp2_with fail
    refine wp_region_calm f (by kernel_rfl) (by kernel_rfl) (calm_drew hf hg _) ?_
    repeat (go_big_quiet_step ((first | (go_at_call 107; exact calm_of hf hg (refVotes_any _ _ _ _ _ fc _)) | (go_at_call 125; exact calm_same (refJoin_any _ _ _ j0 j1 fl0 fl1)))))
    refine wpQuiet_nil ?_; rintro _ ⟨u, rfl⟩
    go_wp2_with (first | (go_at_call 107; refine (refVotes_any _ _ _ _ _ fc _).mono ?_; rintro r w' ⟨rfl, hb⟩; obtain ⟨u, rfl⟩ := calm_step hf hg hb; clear hb) | (go_at_call 105; refine (refCount_any _ _ j0 j1).mono ?_; rintro r w' ⟨rfl, hb⟩; obtain ⟨u, rfl⟩ := calm_step hf hg hb; clear hb))
    refine wp_region_calm f (by kernel_rfl) (by kernel_rfl) (calm_drew hf hg _) ?_
    repeat (go_big_quiet_step ((first | (go_at_call_of 105 (Value.int .u16 cv); exact calm_of hf hg (refCount_any _ _ fv0 fv1)) | (go_at_call_of 105 (Value.int .u16 cx); exact calm_of hf hg (refCount_any _ _ fx0 fx1)) | (go_at_call_of 105 (Value.int .u16 cl); exact calm_of hf hg (refCount_any _ _ fl0 fl1)) | (go_at_call 105; exact calm_of hf hg (refCount_any _ _ a0 a1)))))
    refine wpQuiet_nil ?_; rintro _ ⟨u, rfl⟩
    go_wp2
    all_goals (go_ret; exact ⟨ret_boolS (by have h1 := HS.out; have h2 := HZ.out; simp [refMayC, HV.out, HX.out, HL.out, h1, h2] <;> first | omega | (rw [Bool.eq_iff_iff]; simp only [Bool.and_eq_true, decide_eq_true_eq]; omega)), box_out (box_first (hf _))⟩)

set_option maxRecDepth 100000 in
set_option maxHeartbeats 400000 in
theorem refTwo_one (jov jox jol joe jok jnv jnx jnl jne jnk : Int) (w : World) :
    Calls Tryz.prog 104 #[.agg #[.int .u16 jov, .int .u16 jox, .int .u16 jol, .int .i64 joe, .int .i64 jok, .int .u16 jnv, .int .u16 jnx, .int .u16 jnl, .int .i64 jne, .int .i64 jnk, .bool false]] w fun r w' => r = .returned (.slice (some ⟨w.heap.size + 1, 0, none⟩) 1 1) ∧ (w.alloc (.cells #[.int .u16 jov, .int .u16 jox, .int .u16 jol, .int .i64 joe, .int .i64 jok, .int .u16 jnv, .int .u16 jnx, .int .u16 jnl, .int .i64 jne, .int .i64 jnk, .bool false] 27)).alloc (.cells #[.int .u16 jov, .int .u16 jox, .int .u16 jol, .int .i64 joe, .int .i64 jok] 25) = w' := by
  go_enter Tryz.func104, Tryz.ntmps104
  go_wp2
  go_ret
  exact ⟨rfl, rfl⟩
set_option maxRecDepth 100000 in
set_option maxHeartbeats 400000 in
theorem refTwo_two (jov jox jol joe jok jnv jnx jnl jne jnk : Int) (w : World) :
    Calls Tryz.prog 104 #[.agg #[.int .u16 jov, .int .u16 jox, .int .u16 jol, .int .i64 joe, .int .i64 jok, .int .u16 jnv, .int .u16 jnx, .int .u16 jnl, .int .i64 jne, .int .i64 jnk, .bool true]] w fun r w' => r = .returned (.slice (some ⟨w.heap.size + 1, 0, none⟩) 2 2) ∧ (w.alloc (.cells #[.int .u16 jov, .int .u16 jox, .int .u16 jol, .int .i64 joe, .int .i64 jok, .int .u16 jnv, .int .u16 jnx, .int .u16 jnl, .int .i64 jne, .int .i64 jnk, .bool true] 27)).alloc (.cells #[.int .u16 jov, .int .u16 jox, .int .u16 jol, .int .i64 joe, .int .i64 jok, .int .u16 jnv, .int .u16 jnx, .int .u16 jnl, .int .i64 jne, .int .i64 jnk] 25) = w' := by
  go_enter Tryz.func104, Tryz.ntmps104
  go_wp2
  go_ret
  exact ⟨rfl, rfl⟩

end Go.Proofs.YtbnndbdnejfehaaGreatDoor
/- Contracts of the reference of conf, two. -/
namespace Go.Proofs.YtbnndbdnejfehaaGreatDoor
open Go.RowKit

theorem below_threeR (w : World) (o1 o2 o3 : Obj) {w' : World} (h : Below (((w.alloc o1).alloc o2).alloc o3).heap.size (((w.alloc o1).alloc o2).alloc o3) w') : Below w.heap.size w w' :=
  (below_box w o1).trans (((below_box _ o2).mono (by simp)).trans (((below_box _ o3).mono (by simp; omega)).trans (h.mono (by simp; omega))))

set_option maxRecDepth 100000 in
set_option maxHeartbeats 2000000 in
theorem refVoting_any (jov jox jol joe jok jnv jnx jnl jne jnk : Int) (jt : Bool) (fo : FitC jov jox jol) (fn : FitC jnv jnx jnl) (w : World) :
    Calls Tryz.prog 75 #[.agg #[.int .u16 jov, .int .u16 jox, .int .u16 jol, .int .i64 joe, .int .i64 jok, .int .u16 jnv, .int .u16 jnx, .int .u16 jnl, .int .i64 jne, .int .i64 jnk, .bool jt]] w fun r w' => r = .returned (.int .u16 (if jt then joinB (joinB 0 (joinB jov jox)) (joinB jnv jnx) else joinB 0 (joinB jov jox))) ∧ Below w.heap.size w w' := by
  obtain ⟨j0, j1⟩ := joinB_fit jov jox
  obtain ⟨k0, k1⟩ := joinB_fit jnv jnx
  obtain ⟨i0, i1⟩ := joinB_fit 0 (joinB jov jox)
  have z0 : (0 : Int) ≤ 0 := by omega
  have z1 : (0 : Int) ≤ 65535 := by omega
  cases jt
  · go_enter Tryz.func75, Tryz.ntmps75
    go_wp2_with (go_at_call 104; refine (refTwo_one _ _ _ _ _ _ _ _ _ _ _).mono ?_; rintro r w' ⟨rfl, rfl⟩)
    obtain ⟨U, f, hU, hf, hg⟩ := calm_class (((w.alloc (.cells #[.int .u16 jov, .int .u16 jox, .int .u16 jol, .int .i64 joe, .int .i64 jok, .int .u16 jnv, .int .u16 jnx, .int .u16 jnl, .int .i64 jne, .int .i64 jnk, .bool false] 27)).alloc (.cells #[.int .u16 jov, .int .u16 jox, .int .u16 jol, .int .i64 joe, .int .i64 jok, .int .u16 jnv, .int .u16 jnx, .int .u16 jnl, .int .i64 jne, .int .i64 jnk, .bool false] 27)).alloc (.cells #[.int .u16 jov, .int .u16 jox, .int .u16 jol, .int .i64 joe, .int .i64 jok] 25)); obtain ⟨u0, hu0⟩ := hg _ (Below.refl _ _); rw [hu0]; clear hu0
    have kA := calm_block hf (heap_last ((w.alloc (.cells #[.int .u16 jov, .int .u16 jox, .int .u16 jol, .int .i64 joe, .int .i64 jok, .int .u16 jnv, .int .u16 jnx, .int .u16 jnl, .int .i64 jne, .int .i64 jnk, .bool false] 27)).alloc (.cells #[.int .u16 jov, .int .u16 jox, .int .u16 jol, .int .i64 joe, .int .i64 jok, .int .u16 jnv, .int .u16 jnx, .int .u16 jnl, .int .i64 jne, .int .i64 jnk, .bool false] 27)) (.cells #[.int .u16 jov, .int .u16 jox, .int .u16 jol, .int .i64 joe, .int .i64 jok] 25))
    have HB : Hid (∀ u, Below w.heap.size w (f u)) := fun u => below_threeR w _ _ _ (hf u)
    simp only [World.size_alloc] at kA
    refine wp_loop_rounds 2 ?_
    rw [rounds_succ]
    go_wp2_with (first | (go_at_call 107; refine (refVotes_any _ _ _ _ _ fo _).mono ?_; rintro r w' ⟨rfl, hb⟩; obtain ⟨u, rfl⟩ := calm_step hf hg hb; clear hb) | (go_at_call 125; refine (refJoin_any _ _ _ z0 z1 j0 j1).mono ?_; rintro r w' ⟨rfl, rfl⟩))
    rw [rounds_succ]
    go_wp2
    go_ret
    exact ⟨rfl, HB.out _⟩
  · go_enter Tryz.func75, Tryz.ntmps75
    go_wp2_with (go_at_call 104; refine (refTwo_two _ _ _ _ _ _ _ _ _ _ _).mono ?_; rintro r w' ⟨rfl, rfl⟩)
    obtain ⟨U, f, hU, hf, hg⟩ := calm_class (((w.alloc (.cells #[.int .u16 jov, .int .u16 jox, .int .u16 jol, .int .i64 joe, .int .i64 jok, .int .u16 jnv, .int .u16 jnx, .int .u16 jnl, .int .i64 jne, .int .i64 jnk, .bool true] 27)).alloc (.cells #[.int .u16 jov, .int .u16 jox, .int .u16 jol, .int .i64 joe, .int .i64 jok, .int .u16 jnv, .int .u16 jnx, .int .u16 jnl, .int .i64 jne, .int .i64 jnk, .bool true] 27)).alloc (.cells #[.int .u16 jov, .int .u16 jox, .int .u16 jol, .int .i64 joe, .int .i64 jok, .int .u16 jnv, .int .u16 jnx, .int .u16 jnl, .int .i64 jne, .int .i64 jnk] 25)); obtain ⟨u0, hu0⟩ := hg _ (Below.refl _ _); rw [hu0]; clear hu0
    have kA := calm_block hf (heap_last ((w.alloc (.cells #[.int .u16 jov, .int .u16 jox, .int .u16 jol, .int .i64 joe, .int .i64 jok, .int .u16 jnv, .int .u16 jnx, .int .u16 jnl, .int .i64 jne, .int .i64 jnk, .bool true] 27)).alloc (.cells #[.int .u16 jov, .int .u16 jox, .int .u16 jol, .int .i64 joe, .int .i64 jok, .int .u16 jnv, .int .u16 jnx, .int .u16 jnl, .int .i64 jne, .int .i64 jnk, .bool true] 27)) (.cells #[.int .u16 jov, .int .u16 jox, .int .u16 jol, .int .i64 joe, .int .i64 jok, .int .u16 jnv, .int .u16 jnx, .int .u16 jnl, .int .i64 jne, .int .i64 jnk] 25))
    have HB : Hid (∀ u, Below w.heap.size w (f u)) := fun u => below_threeR w _ _ _ (hf u)
    simp only [World.size_alloc] at kA
    refine wp_loop_rounds 3 ?_
    rw [rounds_succ]
    go_wp2_with (first | (go_at_call 107; refine (refVotes_any _ _ _ _ _ fo _).mono ?_; rintro r w' ⟨rfl, hb⟩; obtain ⟨u, rfl⟩ := calm_step hf hg hb; clear hb) | (go_at_call 125; refine (refJoin_any _ _ _ z0 z1 j0 j1).mono ?_; rintro r w' ⟨rfl, rfl⟩))
    rw [rounds_succ]
    go_wp2_with (first | (go_at_call 107; refine (refVotes_any _ _ _ _ _ fn _).mono ?_; rintro r w' ⟨rfl, hb⟩; obtain ⟨u, rfl⟩ := calm_step hf hg hb; clear hb) | (go_at_call 125; refine (refJoin_any _ _ _ i0 i1 k0 k1).mono ?_; rintro r w' ⟨rfl, rfl⟩))
    rw [rounds_succ]
    go_wp2
    go_ret
    exact ⟨rfl, HB.out _⟩

set_option maxRecDepth 100000 in
set_option maxHeartbeats 2000000 in
theorem refData_any (jov jox jol joe jok jnv jnx jnl jne jnk : Int) (jt : Bool) (fo : FitC jov jox jol) (fn : FitC jnv jnx jnl) (w : World) :
    Calls Tryz.prog 150 #[.agg #[.int .u16 jov, .int .u16 jox, .int .u16 jol, .int .i64 joe, .int .i64 jok, .int .u16 jnv, .int .u16 jnx, .int .u16 jnl, .int .i64 jne, .int .i64 jnk, .bool jt]] w fun r w' => r = .returned (.int .u16 (if jt then joinB (joinB (joinB (joinB 0 jov) jol) jnv) jnl else joinB (joinB 0 jov) jol)) ∧ Below w.heap.size w w' := by
  have ov0 := fo.v0; have ov1 := fo.v1; have ol0 := fo.l0; have ol1 := fo.l1
  have nv0 := fn.v0; have nv1 := fn.v1; have nl0 := fn.l0; have nl1 := fn.l1
  obtain ⟨a0, a1⟩ := joinB_fit 0 jov
  obtain ⟨b0, b1⟩ := joinB_fit (joinB 0 jov) jol
  obtain ⟨c0, c1⟩ := joinB_fit (joinB (joinB 0 jov) jol) jnv
  have z0 : (0 : Int) ≤ 0 := by omega
  have z1 : (0 : Int) ≤ 65535 := by omega
  cases jt
  · go_enter Tryz.func150, Tryz.ntmps150
    go_wp2_with (go_at_call 104; refine (refTwo_one _ _ _ _ _ _ _ _ _ _ _).mono ?_; rintro r w' ⟨rfl, rfl⟩)
    obtain ⟨U, f, hU, hf, hg⟩ := calm_class (((w.alloc (.cells #[.int .u16 jov, .int .u16 jox, .int .u16 jol, .int .i64 joe, .int .i64 jok, .int .u16 jnv, .int .u16 jnx, .int .u16 jnl, .int .i64 jne, .int .i64 jnk, .bool false] 27)).alloc (.cells #[.int .u16 jov, .int .u16 jox, .int .u16 jol, .int .i64 joe, .int .i64 jok, .int .u16 jnv, .int .u16 jnx, .int .u16 jnl, .int .i64 jne, .int .i64 jnk, .bool false] 27)).alloc (.cells #[.int .u16 jov, .int .u16 jox, .int .u16 jol, .int .i64 joe, .int .i64 jok] 25)); obtain ⟨u0, hu0⟩ := hg _ (Below.refl _ _); rw [hu0]; clear hu0
    have kA := calm_block hf (heap_last ((w.alloc (.cells #[.int .u16 jov, .int .u16 jox, .int .u16 jol, .int .i64 joe, .int .i64 jok, .int .u16 jnv, .int .u16 jnx, .int .u16 jnl, .int .i64 jne, .int .i64 jnk, .bool false] 27)).alloc (.cells #[.int .u16 jov, .int .u16 jox, .int .u16 jol, .int .i64 joe, .int .i64 jok, .int .u16 jnv, .int .u16 jnx, .int .u16 jnl, .int .i64 jne, .int .i64 jnk, .bool false] 27)) (.cells #[.int .u16 jov, .int .u16 jox, .int .u16 jol, .int .i64 joe, .int .i64 jok] 25))
    have HB : Hid (∀ u, Below w.heap.size w (f u)) := fun u => below_threeR w _ _ _ (hf u)
    simp only [World.size_alloc] at kA
    refine wp_loop_rounds 2 ?_
    rw [rounds_succ]
    go_wp2
    refine wp_region_calm f (by kernel_rfl) (by kernel_rfl) (calm_drew hf hg _) ?_
    repeat (go_big_quiet_step ((first | (go_at_call_of 125 (Value.int .u16 0); exact calm_same (refJoin_any _ _ _ z0 z1 ov0 ov1)) | (go_at_call 125; exact calm_same (refJoin_any _ _ _ a0 a1 ol0 ol1)))))
    refine wpQuiet_nil ?_; rintro _ ⟨u, rfl⟩
    go_wp2
    rw [rounds_succ]
    go_wp2
    go_ret
    exact ⟨rfl, HB.out _⟩
  · go_enter Tryz.func150, Tryz.ntmps150
    go_wp2_with (go_at_call 104; refine (refTwo_two _ _ _ _ _ _ _ _ _ _ _).mono ?_; rintro r w' ⟨rfl, rfl⟩)
    obtain ⟨U, f, hU, hf, hg⟩ := calm_class (((w.alloc (.cells #[.int .u16 jov, .int .u16 jox, .int .u16 jol, .int .i64 joe, .int .i64 jok, .int .u16 jnv, .int .u16 jnx, .int .u16 jnl, .int .i64 jne, .int .i64 jnk, .bool true] 27)).alloc (.cells #[.int .u16 jov, .int .u16 jox, .int .u16 jol, .int .i64 joe, .int .i64 jok, .int .u16 jnv, .int .u16 jnx, .int .u16 jnl, .int .i64 jne, .int .i64 jnk, .bool true] 27)).alloc (.cells #[.int .u16 jov, .int .u16 jox, .int .u16 jol, .int .i64 joe, .int .i64 jok, .int .u16 jnv, .int .u16 jnx, .int .u16 jnl, .int .i64 jne, .int .i64 jnk] 25)); obtain ⟨u0, hu0⟩ := hg _ (Below.refl _ _); rw [hu0]; clear hu0
    have kA := calm_block hf (heap_last ((w.alloc (.cells #[.int .u16 jov, .int .u16 jox, .int .u16 jol, .int .i64 joe, .int .i64 jok, .int .u16 jnv, .int .u16 jnx, .int .u16 jnl, .int .i64 jne, .int .i64 jnk, .bool true] 27)).alloc (.cells #[.int .u16 jov, .int .u16 jox, .int .u16 jol, .int .i64 joe, .int .i64 jok, .int .u16 jnv, .int .u16 jnx, .int .u16 jnl, .int .i64 jne, .int .i64 jnk, .bool true] 27)) (.cells #[.int .u16 jov, .int .u16 jox, .int .u16 jol, .int .i64 joe, .int .i64 jok, .int .u16 jnv, .int .u16 jnx, .int .u16 jnl, .int .i64 jne, .int .i64 jnk] 25))
    have HB : Hid (∀ u, Below w.heap.size w (f u)) := fun u => below_threeR w _ _ _ (hf u)
    simp only [World.size_alloc] at kA
    refine wp_loop_rounds 3 ?_
    rw [rounds_succ]
    go_wp2
    refine wp_region_calm f (by kernel_rfl) (by kernel_rfl) (calm_drew hf hg _) ?_
    repeat (go_big_quiet_step ((first | (go_at_call_of 125 (Value.int .u16 0); exact calm_same (refJoin_any _ _ _ z0 z1 ov0 ov1)) | (go_at_call 125; exact calm_same (refJoin_any _ _ _ a0 a1 ol0 ol1)))))
    refine wpQuiet_nil ?_; rintro _ ⟨u, rfl⟩
    go_wp2
    rw [rounds_succ]
    go_wp2
    refine wp_region_calm f (by kernel_rfl) (by kernel_rfl) (calm_drew hf hg _) ?_
    repeat (go_big_quiet_step ((first | (go_at_call_of 125 (Value.int .u16 (joinB (joinB 0 jov) jol)); exact calm_same (refJoin_any _ _ _ b0 b1 nv0 nv1)) | (go_at_call 125; exact calm_same (refJoin_any _ _ _ c0 c1 nl0 nl1)))))
    refine wpQuiet_nil ?_; rintro _ ⟨u, rfl⟩
    go_wp2
    rw [rounds_succ]
    go_wp2
    go_ret
    exact ⟨rfl, HB.out _⟩
end Go.Proofs.YtbnndbdnejfehaaGreatDoor
/- Contracts of the reference of conf, three. -/
namespace Go.Proofs.YtbnndbdnejfehaaGreatDoor
open Go.RowKit

set_option maxRecDepth 100000 in
set_option maxHeartbeats 1000000 in
theorem refMembers_any (jov jox jol joe jok jnv jnx jnl jne jnk : Int) (jt : Bool) (fo : FitC jov jox jol) (fn : FitC jnv jnx jnl) (w : World) :
    Calls Tryz.prog 124 #[.agg #[.int .u16 jov, .int .u16 jox, .int .u16 jol, .int .i64 joe, .int .i64 jok, .int .u16 jnv, .int .u16 jnx, .int .u16 jnl, .int .i64 jne, .int .i64 jnk, .bool jt]] w fun r w' => r = .returned (.int .u16 (joinB (if jt then joinB (joinB 0 (joinB jov jox)) (joinB jnv jnx) else joinB 0 (joinB jov jox)) (if jt then joinB (joinB (joinB (joinB 0 jov) jol) jnv) jnl else joinB (joinB 0 jov) jol))) ∧ Below w.heap.size w w' := by
  have HV := Lib.hid (fun w => refVoting_any jov jox jol joe jok jnv jnx jnl jne jnk jt fo fn w)
  have HD := Lib.hid (fun w => refData_any jov jox jol joe jok jnv jnx jnl jne jnk jt fo fn w)
  have hv : 0 ≤ (if jt then joinB (joinB 0 (joinB jov jox)) (joinB jnv jnx) else joinB 0 (joinB jov jox)) ∧ (if jt then joinB (joinB 0 (joinB jov jox)) (joinB jnv jnx) else joinB 0 (joinB jov jox)) ≤ 65535 := by split <;> exact joinB_fit _ _
  have hd : 0 ≤ (if jt then joinB (joinB (joinB (joinB 0 jov) jol) jnv) jnl else joinB (joinB 0 jov) jol) ∧ (if jt then joinB (joinB (joinB (joinB 0 jov) jol) jnv) jnl else joinB (joinB 0 jov) jol) ≤ 65535 := by split <;> exact joinB_fit _ _
  generalize (if jt then joinB (joinB 0 (joinB jov jox)) (joinB jnv jnx) else joinB 0 (joinB jov jox)) = a at *
  generalize (if jt then joinB (joinB (joinB (joinB 0 jov) jol) jnv) jnl else joinB (joinB 0 jov) jol) = b at *
  obtain ⟨v0, v1⟩ := hv
  obtain ⟨d0, d1⟩ := hd
  go_enter Tryz.func124, Tryz.ntmps124
  go_wp2_with fail
  obtain ⟨U, f, hU, hf, hg⟩ := calm_class (w.alloc (.cells #[.int .u16 jov, .int .u16 jox, .int .u16 jol, .int .i64 joe, .int .i64 jok, .int .u16 jnv, .int .u16 jnx, .int .u16 jnl, .int .i64 jne, .int .i64 jnk, .bool jt] 27)); obtain ⟨u0, hu0⟩ := hg _ (Below.refl _ _); rw [hu0]; clear hu0
  have kA := calm_block hf (heap_last w (.cells #[.int .u16 jov, .int .u16 jox, .int .u16 jol, .int .i64 joe, .int .i64 jok, .int .u16 jnv, .int .u16 jnx, .int .u16 jnl, .int .i64 jne, .int .i64 jnk, .bool jt] 27))
  refine wp_region_calm f (by kernel_rfl) (by kernel_rfl) (calm_drew hf hg _) ?_
  repeat (go_big_quiet_step ((first | (go_at_call 75; exact calm_of hf hg (HV.out _)) | (go_at_call 150; exact calm_of hf hg (HD.out _)) | (go_at_call 125; exact calm_same (refJoin_any _ _ _ v0 v1 d0 d1)))))
  refine wpQuiet_nil ?_; rintro _ ⟨u, rfl⟩
  go_wp2
  go_ret
  exact ⟨rfl, box_out (box_first (hf _))⟩

set_option maxRecDepth 100000 in
set_option maxHeartbeats 2000000 in
theorem refLeads_any (jov jox jol joe jok jnv jnx jnl jne jnk n : Int) (jt : Bool) (fo : FitC jov jox jol) (fn : FitC jnv jnx jnl) (w : World) :
    Calls Tryz.prog 73 #[.agg #[.int .u16 jov, .int .u16 jox, .int .u16 jol, .int .i64 joe, .int .i64 jok, .int .u16 jnv, .int .u16 jnx, .int .u16 jnl, .int .i64 jne, .int .i64 jnk, .bool jt], .int .i64 n] w fun r w' => r = .returned (.bool (hasB jov n || (jt && hasB jnv n))) ∧ Below w.heap.size w w' := by
  have ov0 := fo.v0; have ov1 := fo.v1
  have nv0 := fn.v0; have nv1 := fn.v1
  cases ho : hasB jov n
  · have HO := Lib.hid ho; clear ho
    cases jt
    · go_enter Tryz.func73, Tryz.ntmps73
      go_wp2_with (go_at_call 104; refine (refTwo_one _ _ _ _ _ _ _ _ _ _ _).mono ?_; rintro r w' ⟨rfl, rfl⟩)
      obtain ⟨U, f, hU, hf, hg⟩ := calm_class (((w.alloc (.cells #[.int .u16 jov, .int .u16 jox, .int .u16 jol, .int .i64 joe, .int .i64 jok, .int .u16 jnv, .int .u16 jnx, .int .u16 jnl, .int .i64 jne, .int .i64 jnk, .bool false] 27)).alloc (.cells #[.int .u16 jov, .int .u16 jox, .int .u16 jol, .int .i64 joe, .int .i64 jok, .int .u16 jnv, .int .u16 jnx, .int .u16 jnl, .int .i64 jne, .int .i64 jnk, .bool false] 27)).alloc (.cells #[.int .u16 jov, .int .u16 jox, .int .u16 jol, .int .i64 joe, .int .i64 jok] 25)); obtain ⟨u0, hu0⟩ := hg _ (Below.refl _ _); rw [hu0]; clear hu0
      have kA := calm_block hf (heap_last ((w.alloc (.cells #[.int .u16 jov, .int .u16 jox, .int .u16 jol, .int .i64 joe, .int .i64 jok, .int .u16 jnv, .int .u16 jnx, .int .u16 jnl, .int .i64 jne, .int .i64 jnk, .bool false] 27)).alloc (.cells #[.int .u16 jov, .int .u16 jox, .int .u16 jol, .int .i64 joe, .int .i64 jok, .int .u16 jnv, .int .u16 jnx, .int .u16 jnl, .int .i64 jne, .int .i64 jnk, .bool false] 27)) (.cells #[.int .u16 jov, .int .u16 jox, .int .u16 jol, .int .i64 joe, .int .i64 jok] 25))
      have HB : Hid (∀ u, Below w.heap.size w (f u)) := fun u => below_threeR w _ _ _ (hf u)
      simp only [World.size_alloc] at kA
      refine wp_loop_rounds 2 ?_
      rw [rounds_succ]
      go_wp2_with (go_at_call 102; refine (refHas_any _ _ _ ov0 ov1).mono ?_; rintro r w' ⟨rfl, rfl⟩; rw [HO.out])
      rw [rounds_succ]
      go_wp2
      go_ret
      exact ⟨ret_boolS (by simp), HB.out _⟩
    · go_enter Tryz.func73, Tryz.ntmps73
      go_wp2_with (go_at_call 104; refine (refTwo_two _ _ _ _ _ _ _ _ _ _ _).mono ?_; rintro r w' ⟨rfl, rfl⟩)
      obtain ⟨U, f, hU, hf, hg⟩ := calm_class (((w.alloc (.cells #[.int .u16 jov, .int .u16 jox, .int .u16 jol, .int .i64 joe, .int .i64 jok, .int .u16 jnv, .int .u16 jnx, .int .u16 jnl, .int .i64 jne, .int .i64 jnk, .bool true] 27)).alloc (.cells #[.int .u16 jov, .int .u16 jox, .int .u16 jol, .int .i64 joe, .int .i64 jok, .int .u16 jnv, .int .u16 jnx, .int .u16 jnl, .int .i64 jne, .int .i64 jnk, .bool true] 27)).alloc (.cells #[.int .u16 jov, .int .u16 jox, .int .u16 jol, .int .i64 joe, .int .i64 jok, .int .u16 jnv, .int .u16 jnx, .int .u16 jnl, .int .i64 jne, .int .i64 jnk] 25)); obtain ⟨u0, hu0⟩ := hg _ (Below.refl _ _); rw [hu0]; clear hu0
      have kA := calm_block hf (heap_last ((w.alloc (.cells #[.int .u16 jov, .int .u16 jox, .int .u16 jol, .int .i64 joe, .int .i64 jok, .int .u16 jnv, .int .u16 jnx, .int .u16 jnl, .int .i64 jne, .int .i64 jnk, .bool true] 27)).alloc (.cells #[.int .u16 jov, .int .u16 jox, .int .u16 jol, .int .i64 joe, .int .i64 jok, .int .u16 jnv, .int .u16 jnx, .int .u16 jnl, .int .i64 jne, .int .i64 jnk, .bool true] 27)) (.cells #[.int .u16 jov, .int .u16 jox, .int .u16 jol, .int .i64 joe, .int .i64 jok, .int .u16 jnv, .int .u16 jnx, .int .u16 jnl, .int .i64 jne, .int .i64 jnk] 25))
      have HB : Hid (∀ u, Below w.heap.size w (f u)) := fun u => below_threeR w _ _ _ (hf u)
      simp only [World.size_alloc] at kA
      refine wp_loop_rounds 3 ?_
      rw [rounds_succ]
      go_wp2_with (go_at_call 102; refine (refHas_any _ _ _ ov0 ov1).mono ?_; rintro r w' ⟨rfl, rfl⟩; rw [HO.out])
      rw [rounds_succ]
      go_wp2_with (go_at_call 102; refine (refHas_any _ _ _ nv0 nv1).mono ?_; rintro r w' ⟨rfl, rfl⟩)
      · go_ret
        exact ⟨ret_boolS (by simp [*]), HB.out _⟩
      · rw [rounds_succ]
        go_wp2
        go_ret
        exact ⟨ret_boolS (by simp [*]), HB.out _⟩
  · have HO := Lib.hid ho; clear ho
    cases jt
    · go_enter Tryz.func73, Tryz.ntmps73
      go_wp2_with (go_at_call 104; refine (refTwo_one _ _ _ _ _ _ _ _ _ _ _).mono ?_; rintro r w' ⟨rfl, rfl⟩)
      obtain ⟨U, f, hU, hf, hg⟩ := calm_class (((w.alloc (.cells #[.int .u16 jov, .int .u16 jox, .int .u16 jol, .int .i64 joe, .int .i64 jok, .int .u16 jnv, .int .u16 jnx, .int .u16 jnl, .int .i64 jne, .int .i64 jnk, .bool false] 27)).alloc (.cells #[.int .u16 jov, .int .u16 jox, .int .u16 jol, .int .i64 joe, .int .i64 jok, .int .u16 jnv, .int .u16 jnx, .int .u16 jnl, .int .i64 jne, .int .i64 jnk, .bool false] 27)).alloc (.cells #[.int .u16 jov, .int .u16 jox, .int .u16 jol, .int .i64 joe, .int .i64 jok] 25)); obtain ⟨u0, hu0⟩ := hg _ (Below.refl _ _); rw [hu0]; clear hu0
      have kA := calm_block hf (heap_last ((w.alloc (.cells #[.int .u16 jov, .int .u16 jox, .int .u16 jol, .int .i64 joe, .int .i64 jok, .int .u16 jnv, .int .u16 jnx, .int .u16 jnl, .int .i64 jne, .int .i64 jnk, .bool false] 27)).alloc (.cells #[.int .u16 jov, .int .u16 jox, .int .u16 jol, .int .i64 joe, .int .i64 jok, .int .u16 jnv, .int .u16 jnx, .int .u16 jnl, .int .i64 jne, .int .i64 jnk, .bool false] 27)) (.cells #[.int .u16 jov, .int .u16 jox, .int .u16 jol, .int .i64 joe, .int .i64 jok] 25))
      have HB : Hid (∀ u, Below w.heap.size w (f u)) := fun u => below_threeR w _ _ _ (hf u)
      simp only [World.size_alloc] at kA
      refine wp_loop_rounds 2 ?_
      rw [rounds_succ]
      go_wp2_with (go_at_call 102; refine (refHas_any _ _ _ ov0 ov1).mono ?_; rintro r w' ⟨rfl, rfl⟩; rw [HO.out])
      go_ret
      exact ⟨ret_boolS (by simp), HB.out _⟩
    · go_enter Tryz.func73, Tryz.ntmps73
      go_wp2_with (go_at_call 104; refine (refTwo_two _ _ _ _ _ _ _ _ _ _ _).mono ?_; rintro r w' ⟨rfl, rfl⟩)
      obtain ⟨U, f, hU, hf, hg⟩ := calm_class (((w.alloc (.cells #[.int .u16 jov, .int .u16 jox, .int .u16 jol, .int .i64 joe, .int .i64 jok, .int .u16 jnv, .int .u16 jnx, .int .u16 jnl, .int .i64 jne, .int .i64 jnk, .bool true] 27)).alloc (.cells #[.int .u16 jov, .int .u16 jox, .int .u16 jol, .int .i64 joe, .int .i64 jok, .int .u16 jnv, .int .u16 jnx, .int .u16 jnl, .int .i64 jne, .int .i64 jnk, .bool true] 27)).alloc (.cells #[.int .u16 jov, .int .u16 jox, .int .u16 jol, .int .i64 joe, .int .i64 jok, .int .u16 jnv, .int .u16 jnx, .int .u16 jnl, .int .i64 jne, .int .i64 jnk] 25)); obtain ⟨u0, hu0⟩ := hg _ (Below.refl _ _); rw [hu0]; clear hu0
      have kA := calm_block hf (heap_last ((w.alloc (.cells #[.int .u16 jov, .int .u16 jox, .int .u16 jol, .int .i64 joe, .int .i64 jok, .int .u16 jnv, .int .u16 jnx, .int .u16 jnl, .int .i64 jne, .int .i64 jnk, .bool true] 27)).alloc (.cells #[.int .u16 jov, .int .u16 jox, .int .u16 jol, .int .i64 joe, .int .i64 jok, .int .u16 jnv, .int .u16 jnx, .int .u16 jnl, .int .i64 jne, .int .i64 jnk, .bool true] 27)) (.cells #[.int .u16 jov, .int .u16 jox, .int .u16 jol, .int .i64 joe, .int .i64 jok, .int .u16 jnv, .int .u16 jnx, .int .u16 jnl, .int .i64 jne, .int .i64 jnk] 25))
      have HB : Hid (∀ u, Below w.heap.size w (f u)) := fun u => below_threeR w _ _ _ (hf u)
      simp only [World.size_alloc] at kA
      refine wp_loop_rounds 3 ?_
      rw [rounds_succ]
      go_wp2_with (go_at_call 102; refine (refHas_any _ _ _ ov0 ov1).mono ?_; rintro r w' ⟨rfl, rfl⟩; rw [HO.out])
      go_ret
      exact ⟨ret_boolS (by simp), HB.out _⟩

set_option maxRecDepth 100000 in
set_option maxHeartbeats 4000000 in
theorem refElects_any (jov jox jol joe jok jnv jnx jnl jne jnk g : Int) (jt : Bool) (fo : FitC jov jox jol) (fn : FitC jnv jnx jnl) (g0 : 0 ≤ g) (g1 : g ≤ 65535) (w : World) :
    Calls Tryz.prog 53 #[.agg #[.int .u16 jov, .int .u16 jox, .int .u16 jol, .int .i64 joe, .int .i64 jok, .int .u16 jnv, .int .u16 jnx, .int .u16 jnl, .int .i64 jne, .int .i64 jnk, .bool jt], .int .u16 g] w fun r w' => r = .returned (.bool (!decide (cnt (meetB (joinB jov jox) g) < joe) && (!jt || !decide (cnt (meetB (joinB jnv jnx) g) < jne)))) ∧ Below w.heap.size w w' := by
  obtain ⟨j0, j1⟩ := joinB_fit jov jox
  obtain ⟨k0, k1⟩ := joinB_fit jnv jnx
  obtain ⟨m0, m1⟩ := meetB_fit (joinB jov jox) g
  obtain ⟨l0, l1⟩ := meetB_fit (joinB jnv jnx) g
  by_cases ho : cnt (meetB (joinB jov jox) g) < joe
  · have ho' : decide (cnt (meetB (joinB jov jox) g) < joe) = true := by simpa using ho
    have HO := Lib.hid ho'
    cases jt
    · go_enter Tryz.func53, Tryz.ntmps53
      go_wp2_with (go_at_call 104; refine (refTwo_one _ _ _ _ _ _ _ _ _ _ _).mono ?_; rintro r w' ⟨rfl, rfl⟩)
      obtain ⟨U, f, hU, hf, hg⟩ := calm_class (((w.alloc (.cells #[.int .u16 jov, .int .u16 jox, .int .u16 jol, .int .i64 joe, .int .i64 jok, .int .u16 jnv, .int .u16 jnx, .int .u16 jnl, .int .i64 jne, .int .i64 jnk, .bool false] 27)).alloc (.cells #[.int .u16 jov, .int .u16 jox, .int .u16 jol, .int .i64 joe, .int .i64 jok, .int .u16 jnv, .int .u16 jnx, .int .u16 jnl, .int .i64 jne, .int .i64 jnk, .bool false] 27)).alloc (.cells #[.int .u16 jov, .int .u16 jox, .int .u16 jol, .int .i64 joe, .int .i64 jok] 25)); obtain ⟨u0, hu0⟩ := hg _ (Below.refl _ _); rw [hu0]; clear hu0
      have kA := calm_block hf (heap_last ((w.alloc (.cells #[.int .u16 jov, .int .u16 jox, .int .u16 jol, .int .i64 joe, .int .i64 jok, .int .u16 jnv, .int .u16 jnx, .int .u16 jnl, .int .i64 jne, .int .i64 jnk, .bool false] 27)).alloc (.cells #[.int .u16 jov, .int .u16 jox, .int .u16 jol, .int .i64 joe, .int .i64 jok, .int .u16 jnv, .int .u16 jnx, .int .u16 jnl, .int .i64 jne, .int .i64 jnk, .bool false] 27)) (.cells #[.int .u16 jov, .int .u16 jox, .int .u16 jol, .int .i64 joe, .int .i64 jok] 25))
      have HB : Hid (∀ u, Below w.heap.size w (f u)) := fun u => below_threeR w _ _ _ (hf u)
      simp only [World.size_alloc] at kA
      refine wp_loop_rounds 2 ?_
      rw [rounds_succ]
      go_wp2
      refine wp_region_calm f (by kernel_rfl) (by kernel_rfl) (calm_drew hf hg _) ?_
      repeat (go_big_quiet_step ((first | (go_at_call 107; exact calm_of hf hg (refVotes_any _ _ _ _ _ fo _)) | (go_at_call 106; exact calm_same (refMeet_any _ _ _ j0 j1 g0 g1)) | (go_at_call 105; exact calm_of hf hg (refCount_any _ _ m0 m1)))))
      refine wpQuiet_nil ?_; rintro _ ⟨u, rfl⟩
      go_wp2
      go_ret
      exact ⟨ret_boolS (by simp [HO.out]), HB.out _⟩
    · go_enter Tryz.func53, Tryz.ntmps53
      go_wp2_with (go_at_call 104; refine (refTwo_two _ _ _ _ _ _ _ _ _ _ _).mono ?_; rintro r w' ⟨rfl, rfl⟩)
      obtain ⟨U, f, hU, hf, hg⟩ := calm_class (((w.alloc (.cells #[.int .u16 jov, .int .u16 jox, .int .u16 jol, .int .i64 joe, .int .i64 jok, .int .u16 jnv, .int .u16 jnx, .int .u16 jnl, .int .i64 jne, .int .i64 jnk, .bool true] 27)).alloc (.cells #[.int .u16 jov, .int .u16 jox, .int .u16 jol, .int .i64 joe, .int .i64 jok, .int .u16 jnv, .int .u16 jnx, .int .u16 jnl, .int .i64 jne, .int .i64 jnk, .bool true] 27)).alloc (.cells #[.int .u16 jov, .int .u16 jox, .int .u16 jol, .int .i64 joe, .int .i64 jok, .int .u16 jnv, .int .u16 jnx, .int .u16 jnl, .int .i64 jne, .int .i64 jnk] 25)); obtain ⟨u0, hu0⟩ := hg _ (Below.refl _ _); rw [hu0]; clear hu0
      have kA := calm_block hf (heap_last ((w.alloc (.cells #[.int .u16 jov, .int .u16 jox, .int .u16 jol, .int .i64 joe, .int .i64 jok, .int .u16 jnv, .int .u16 jnx, .int .u16 jnl, .int .i64 jne, .int .i64 jnk, .bool true] 27)).alloc (.cells #[.int .u16 jov, .int .u16 jox, .int .u16 jol, .int .i64 joe, .int .i64 jok, .int .u16 jnv, .int .u16 jnx, .int .u16 jnl, .int .i64 jne, .int .i64 jnk, .bool true] 27)) (.cells #[.int .u16 jov, .int .u16 jox, .int .u16 jol, .int .i64 joe, .int .i64 jok, .int .u16 jnv, .int .u16 jnx, .int .u16 jnl, .int .i64 jne, .int .i64 jnk] 25))
      have HB : Hid (∀ u, Below w.heap.size w (f u)) := fun u => below_threeR w _ _ _ (hf u)
      simp only [World.size_alloc] at kA
      refine wp_loop_rounds 3 ?_
      rw [rounds_succ]
      go_wp2
      refine wp_region_calm f (by kernel_rfl) (by kernel_rfl) (calm_drew hf hg _) ?_
      repeat (go_big_quiet_step ((first | (go_at_call 107; exact calm_of hf hg (refVotes_any _ _ _ _ _ fo _)) | (go_at_call 106; exact calm_same (refMeet_any _ _ _ j0 j1 g0 g1)) | (go_at_call 105; exact calm_of hf hg (refCount_any _ _ m0 m1)))))
      refine wpQuiet_nil ?_; rintro _ ⟨u, rfl⟩
      go_wp2
      go_ret
      exact ⟨ret_boolS (by simp [HO.out]), HB.out _⟩
  · have ho' : decide (cnt (meetB (joinB jov jox) g) < joe) = false := by simpa using ho
    have HO := Lib.hid ho'
    cases jt
    · go_enter Tryz.func53, Tryz.ntmps53
      go_wp2_with (go_at_call 104; refine (refTwo_one _ _ _ _ _ _ _ _ _ _ _).mono ?_; rintro r w' ⟨rfl, rfl⟩)
      obtain ⟨U, f, hU, hf, hg⟩ := calm_class (((w.alloc (.cells #[.int .u16 jov, .int .u16 jox, .int .u16 jol, .int .i64 joe, .int .i64 jok, .int .u16 jnv, .int .u16 jnx, .int .u16 jnl, .int .i64 jne, .int .i64 jnk, .bool false] 27)).alloc (.cells #[.int .u16 jov, .int .u16 jox, .int .u16 jol, .int .i64 joe, .int .i64 jok, .int .u16 jnv, .int .u16 jnx, .int .u16 jnl, .int .i64 jne, .int .i64 jnk, .bool false] 27)).alloc (.cells #[.int .u16 jov, .int .u16 jox, .int .u16 jol, .int .i64 joe, .int .i64 jok] 25)); obtain ⟨u0, hu0⟩ := hg _ (Below.refl _ _); rw [hu0]; clear hu0
      have kA := calm_block hf (heap_last ((w.alloc (.cells #[.int .u16 jov, .int .u16 jox, .int .u16 jol, .int .i64 joe, .int .i64 jok, .int .u16 jnv, .int .u16 jnx, .int .u16 jnl, .int .i64 jne, .int .i64 jnk, .bool false] 27)).alloc (.cells #[.int .u16 jov, .int .u16 jox, .int .u16 jol, .int .i64 joe, .int .i64 jok, .int .u16 jnv, .int .u16 jnx, .int .u16 jnl, .int .i64 jne, .int .i64 jnk, .bool false] 27)) (.cells #[.int .u16 jov, .int .u16 jox, .int .u16 jol, .int .i64 joe, .int .i64 jok] 25))
      have HB : Hid (∀ u, Below w.heap.size w (f u)) := fun u => below_threeR w _ _ _ (hf u)
      simp only [World.size_alloc] at kA
      refine wp_loop_rounds 2 ?_
      rw [rounds_succ]
      go_wp2
      refine wp_region_calm f (by kernel_rfl) (by kernel_rfl) (calm_drew hf hg _) ?_
      repeat (go_big_quiet_step ((first | (go_at_call 107; exact calm_of hf hg (refVotes_any _ _ _ _ _ fo _)) | (go_at_call 106; exact calm_same (refMeet_any _ _ _ j0 j1 g0 g1)) | (go_at_call 105; exact calm_of hf hg (refCount_any _ _ m0 m1)))))
      refine wpQuiet_nil ?_; rintro _ ⟨u, rfl⟩
      go_wp2
      rw [rounds_succ]
      go_wp2
      go_ret
      exact ⟨ret_boolS (by simp [HO.out]), HB.out _⟩
    · by_cases hn : cnt (meetB (joinB jnv jnx) g) < jne
      · have hn' : decide (cnt (meetB (joinB jnv jnx) g) < jne) = true := by simpa using hn
        have HN := Lib.hid hn'
        go_enter Tryz.func53, Tryz.ntmps53
        go_wp2_with (go_at_call 104; refine (refTwo_two _ _ _ _ _ _ _ _ _ _ _).mono ?_; rintro r w' ⟨rfl, rfl⟩)
        obtain ⟨U, f, hU, hf, hg⟩ := calm_class (((w.alloc (.cells #[.int .u16 jov, .int .u16 jox, .int .u16 jol, .int .i64 joe, .int .i64 jok, .int .u16 jnv, .int .u16 jnx, .int .u16 jnl, .int .i64 jne, .int .i64 jnk, .bool true] 27)).alloc (.cells #[.int .u16 jov, .int .u16 jox, .int .u16 jol, .int .i64 joe, .int .i64 jok, .int .u16 jnv, .int .u16 jnx, .int .u16 jnl, .int .i64 jne, .int .i64 jnk, .bool true] 27)).alloc (.cells #[.int .u16 jov, .int .u16 jox, .int .u16 jol, .int .i64 joe, .int .i64 jok, .int .u16 jnv, .int .u16 jnx, .int .u16 jnl, .int .i64 jne, .int .i64 jnk] 25)); obtain ⟨u0, hu0⟩ := hg _ (Below.refl _ _); rw [hu0]; clear hu0
        have kA := calm_block hf (heap_last ((w.alloc (.cells #[.int .u16 jov, .int .u16 jox, .int .u16 jol, .int .i64 joe, .int .i64 jok, .int .u16 jnv, .int .u16 jnx, .int .u16 jnl, .int .i64 jne, .int .i64 jnk, .bool true] 27)).alloc (.cells #[.int .u16 jov, .int .u16 jox, .int .u16 jol, .int .i64 joe, .int .i64 jok, .int .u16 jnv, .int .u16 jnx, .int .u16 jnl, .int .i64 jne, .int .i64 jnk, .bool true] 27)) (.cells #[.int .u16 jov, .int .u16 jox, .int .u16 jol, .int .i64 joe, .int .i64 jok, .int .u16 jnv, .int .u16 jnx, .int .u16 jnl, .int .i64 jne, .int .i64 jnk] 25))
        have HB : Hid (∀ u, Below w.heap.size w (f u)) := fun u => below_threeR w _ _ _ (hf u)
        simp only [World.size_alloc] at kA
        refine wp_loop_rounds 3 ?_
        rw [rounds_succ]
        go_wp2
        refine wp_region_calm f (by kernel_rfl) (by kernel_rfl) (calm_drew hf hg _) ?_
        repeat (go_big_quiet_step ((first | (go_at_call 107; exact calm_of hf hg (refVotes_any _ _ _ _ _ fo _)) | (go_at_call 106; exact calm_same (refMeet_any _ _ _ j0 j1 g0 g1)) | (go_at_call 105; exact calm_of hf hg (refCount_any _ _ m0 m1)))))
        refine wpQuiet_nil ?_; rintro _ ⟨u, rfl⟩
        go_wp2
        rw [rounds_succ]
        go_wp2
        refine wp_region_calm f (by kernel_rfl) (by kernel_rfl) (calm_drew hf hg _) ?_
        repeat (go_big_quiet_step ((first | (go_at_call 107; exact calm_of hf hg (refVotes_any _ _ _ _ _ fn _)) | (go_at_call 106; exact calm_same (refMeet_any _ _ _ k0 k1 g0 g1)) | (go_at_call 105; exact calm_of hf hg (refCount_any _ _ l0 l1)))))
        refine wpQuiet_nil ?_; rintro _ ⟨u, rfl⟩
        go_wp2
        go_ret
        exact ⟨ret_boolS (by simp [HO.out, HN.out]), HB.out _⟩
      · have hn' : decide (cnt (meetB (joinB jnv jnx) g) < jne) = false := by simpa using hn
        have HN := Lib.hid hn'
        go_enter Tryz.func53, Tryz.ntmps53
        go_wp2_with (go_at_call 104; refine (refTwo_two _ _ _ _ _ _ _ _ _ _ _).mono ?_; rintro r w' ⟨rfl, rfl⟩)
        obtain ⟨U, f, hU, hf, hg⟩ := calm_class (((w.alloc (.cells #[.int .u16 jov, .int .u16 jox, .int .u16 jol, .int .i64 joe, .int .i64 jok, .int .u16 jnv, .int .u16 jnx, .int .u16 jnl, .int .i64 jne, .int .i64 jnk, .bool true] 27)).alloc (.cells #[.int .u16 jov, .int .u16 jox, .int .u16 jol, .int .i64 joe, .int .i64 jok, .int .u16 jnv, .int .u16 jnx, .int .u16 jnl, .int .i64 jne, .int .i64 jnk, .bool true] 27)).alloc (.cells #[.int .u16 jov, .int .u16 jox, .int .u16 jol, .int .i64 joe, .int .i64 jok, .int .u16 jnv, .int .u16 jnx, .int .u16 jnl, .int .i64 jne, .int .i64 jnk] 25)); obtain ⟨u0, hu0⟩ := hg _ (Below.refl _ _); rw [hu0]; clear hu0
        have kA := calm_block hf (heap_last ((w.alloc (.cells #[.int .u16 jov, .int .u16 jox, .int .u16 jol, .int .i64 joe, .int .i64 jok, .int .u16 jnv, .int .u16 jnx, .int .u16 jnl, .int .i64 jne, .int .i64 jnk, .bool true] 27)).alloc (.cells #[.int .u16 jov, .int .u16 jox, .int .u16 jol, .int .i64 joe, .int .i64 jok, .int .u16 jnv, .int .u16 jnx, .int .u16 jnl, .int .i64 jne, .int .i64 jnk, .bool true] 27)) (.cells #[.int .u16 jov, .int .u16 jox, .int .u16 jol, .int .i64 joe, .int .i64 jok, .int .u16 jnv, .int .u16 jnx, .int .u16 jnl, .int .i64 jne, .int .i64 jnk] 25))
        have HB : Hid (∀ u, Below w.heap.size w (f u)) := fun u => below_threeR w _ _ _ (hf u)
        simp only [World.size_alloc] at kA
        refine wp_loop_rounds 3 ?_
        rw [rounds_succ]
        go_wp2
        refine wp_region_calm f (by kernel_rfl) (by kernel_rfl) (calm_drew hf hg _) ?_
        repeat (go_big_quiet_step ((first | (go_at_call 107; exact calm_of hf hg (refVotes_any _ _ _ _ _ fo _)) | (go_at_call 106; exact calm_same (refMeet_any _ _ _ j0 j1 g0 g1)) | (go_at_call 105; exact calm_of hf hg (refCount_any _ _ m0 m1)))))
        refine wpQuiet_nil ?_; rintro _ ⟨u, rfl⟩
        go_wp2
        rw [rounds_succ]
        go_wp2
        refine wp_region_calm f (by kernel_rfl) (by kernel_rfl) (calm_drew hf hg _) ?_
        repeat (go_big_quiet_step ((first | (go_at_call 107; exact calm_of hf hg (refVotes_any _ _ _ _ _ fn _)) | (go_at_call 106; exact calm_same (refMeet_any _ _ _ k0 k1 g0 g1)) | (go_at_call 105; exact calm_of hf hg (refCount_any _ _ l0 l1)))))
        refine wpQuiet_nil ?_; rintro _ ⟨u, rfl⟩
        go_wp2
        rw [rounds_succ]
        go_wp2
        go_ret
        exact ⟨ret_boolS (by simp [HO.out, HN.out]), HB.out _⟩
end Go.Proofs.YtbnndbdnejfehaaGreatDoor
