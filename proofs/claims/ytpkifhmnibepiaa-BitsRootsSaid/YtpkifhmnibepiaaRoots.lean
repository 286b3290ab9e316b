/- LengthOf, and the law BitsRoots: its walk. -/
import Derived.Test.YtpkifhmnibepiaaSame
namespace Go.Proofs.Ytpkifhmnibepiaa
open Go.RowKit Ieee

theorem vec_cells {w w' : World} {x y z : Nat} {T : TypeId} (hb : Below (w.alloc (.cells #[.float .f64 x, .float .f64 y, .float .f64 z] T)).heap.size (w.alloc (.cells #[.float .f64 x, .float .f64 y, .float .f64 z] T)) w') :
    w'.cell? ⟨w.heap.size, 0, none⟩ = some (.float .f64 x) ∧ w'.cell? ⟨w.heap.size, 1, none⟩ = some (.float .f64 y) ∧ w'.cell? ⟨w.heap.size, 2, none⟩ = some (.float .f64 z) := by
  have hl : ∀ j, (⟨w.heap.size, j, none⟩ : Addr).block < (w.alloc (.cells #[.float .f64 x, .float .f64 y, .float .f64 z] T)).heap.size := fun j => by simp
  exact ⟨by rw [hb.cell (hl 0)]; simp, by rw [hb.cell (hl 1)]; simp, by rw [hb.cell (hl 2)]; simp⟩

theorem sqrt_soft (a : Nat) (w : World) :
    Calls Try.prog 7 #[.float .f64 a] w fun e w' => ∃ r, e = .returned (.float .f64 r) ∧ Hid (∀ oa, Sft oa a → Sft (oa.bind fun a => double.sqrt a) r) ∧ Below w.heap.size w w' := by
  refine (sqrt_any a w).mono ?_
  rintro e w' ⟨he, rfl⟩
  exact ⟨_, he, Lib.hid (fun oa ha => sft_sqrt ha _), below_opW (Below.refl _ _) _⟩
theorem plus_soft' (a y z : Nat) (w : World) :
    Calls Try.prog 16 #[.float .f64 a, .float .f64 y, .float .f64 z] w fun e w' => ∃ r, e = .returned (.float .f64 r) ∧ Hid (∀ oa, Sft oa a → Sft (oa.bind fun a => (double.mul y z).bind fun b => double.add a b) r) ∧ Below w.heap.size w w' := by
  refine (plus_soft a y z w).mono ?_
  rintro e w' ⟨r, he, h, hb⟩
  exact ⟨r, he, Lib.hid h, hb⟩
set_option maxHeartbeats 2000000 in
theorem lengthOf_num (x y z v : Nat) (hm : double.mul x x = some v) (w : World) :
    Calls Try.prog 9 #[.agg #[.float .f64 x, .float .f64 y, .float .f64 z]] w fun e w' => ∃ r, e = .returned (.float .f64 r) ∧ Sft (lenO x y z) r ∧ Below w.heap.size w w' := by
  have HQ := Lib.hid (fun s W => sqrt_soft s W)
  have HP := Lib.hid (fun a y z W => plus_soft' a y z W)
  have hx := fun W => run_float_arith (P := Try.prog) W .mul 22 .f64 x x v hm
  have HM := Lib.hid hm
  clear hm
  go_enter Try.func9, Try.ntmps9
  go_wp2_with fail
  have HC := Lib.hid (fun (W : World) hb => vec_cells (w := w) (w' := W) (x := x) (y := y) (z := z) (T := 24) hb)
  have HB : ∀ T, Hid (Below (w.alloc (.cells #[.float .f64 x, .float .f64 y, .float .f64 z] T)).heap.size (w.alloc (.cells #[.float .f64 x, .float .f64 y, .float .f64 z] T)) (w.alloc (.cells #[.float .f64 x, .float .f64 y, .float .f64 z] T))) := fun T => Lib.hid (Below.refl _ _)
  have HB0 := HB 24
  clear HB
  go_region_held3 (fun w' => w'.cell? ⟨w.heap.size, 0, none⟩ = some (.float .f64 x) ∧ w'.cell? ⟨w.heap.size, 1, none⟩ = some (.float .f64 y) ∧ w'.cell? ⟨w.heap.size, 2, none⟩ = some (.float .f64 z))
    (first | (exact HC.out _ HB0.out) | (exact HC.out _ HB0.out.drew) | (exact HC.out _ (below_step HB0.out.drew hb1)) | (exact HC.out _ (below_step (below_step HB0.out.drew hb1) hb2)) | (exact HC.out _ (below_step (below_step (below_step HB0.out.drew hb1) hb2) hb3)) | assumption)
    (first | (go_at_call 7; refine (HQ.out _ _).mono ?_; rintro e w3 ⟨r3, rfl, h3, hb3⟩) | (go_at_call 16; have _u := hb1; refine (HP.out _ _ _ _).mono ?_; rintro e w2 ⟨r2, rfl, h2, hb2⟩) | (go_at_call 16; refine (HP.out _ _ _ _).mono ?_; rintro e w1 ⟨r1, rfl, h1, hb1⟩))
  go_wp2
  go_ret
  refine ⟨r3, rfl, ?_, below_step ((Below.refl _ _).alloc (Nat.le_refl _) _) (below_step (below_step (below_step HB0.out.drew hb1) hb2) hb3)⟩
  have h := h3.out _ (h2.out _ (h1.out (some v) rfl))
  unfold lenO
  rw [HM.out]
  exact h
set_option linter.unusedSimpArgs false in
set_option maxHeartbeats 2000000 in
theorem lengthOf_nan (x y z : Nat) (hm : double.mul x x = none) (w : World) :
    Calls Try.prog 9 #[.agg #[.float .f64 x, .float .f64 y, .float .f64 z]] w fun e w' => ∃ r, e = .returned (.float .f64 r) ∧ Sft (lenO x y z) r ∧ Below w.heap.size w w' := by
  have HQ := Lib.hid (fun s W => sqrt_soft s W)
  have HP := Lib.hid (fun a y z W => plus_soft' a y z W)
  have hx : ∀ W, (binOp .mul 22 (.float .f64 x) (.float .f64 x)).run Try.prog W = .ok (.float .f64 (nanW x x W)) W.drew := fun W => by have := run_mulS x x W; rw [hm] at this; exact this
  have HM := Lib.hid hm
  clear hm
  go_enter Try.func9, Try.ntmps9
  go_wp2_with fail
  have HC := Lib.hid (fun (W : World) hb => vec_cells (w := w) (w' := W) (x := x) (y := y) (z := z) (T := 24) hb)
  have HB : ∀ T, Hid (Below (w.alloc (.cells #[.float .f64 x, .float .f64 y, .float .f64 z] T)).heap.size (w.alloc (.cells #[.float .f64 x, .float .f64 y, .float .f64 z] T)) (w.alloc (.cells #[.float .f64 x, .float .f64 y, .float .f64 z] T))) := fun T => Lib.hid (Below.refl _ _)
  have HB0 := HB 24
  clear HB
  refine wp_region_held_drew (S := (fun w' => w'.cell? ⟨w.heap.size, 0, none⟩ = some (.float .f64 x) ∧ w'.cell? ⟨w.heap.size, 1, none⟩ = some (.float .f64 y) ∧ w'.cell? ⟨w.heap.size, 2, none⟩ = some (.float .f64 z))) (by kernel_rfl) (HC.out _ HB0.out.drew) (fun hHeld => ?_)
  refine wpAnyH_take (i := 0) (oi := _) (v := ?_) rfl (by kernel_rfl) (by kernel_rfl) (by kernel_rfl) (fun _ _ _ h => h) (Or.inl ⟨by rfl, ?_⟩) (by assumption) ?_
  rotate_left
  · (intro w hSw; (try dsimp only at hSw); go_simp; try with_reducible rfl)
  try simp only [Act.put, List.setIfInBounds_toArray, List.set_cons_zero, List.set_cons_succ]
  refine wpAnyH_take (i := 1) (oi := _) (v := ?_) rfl (by kernel_rfl) (by kernel_rfl) (by kernel_rfl) (fun _ _ _ h => h) (Or.inl ⟨by rfl, ?_⟩) (by assumption) ?_
  rotate_left
  · (intro w hSw; (try dsimp only at hSw); go_simp; try with_reducible rfl)
  try simp only [Act.put, List.setIfInBounds_toArray, List.set_cons_zero, List.set_cons_succ]
  refine wpAnyH_take (i := 2) (oi := _) (v := ?_) rfl (by kernel_rfl) (by kernel_rfl) (by kernel_rfl) (fun _ _ _ h => h) (Or.inl ⟨by rfl, ?_⟩) (by assumption) ?_
  rotate_left
  · (intro w hSw; (try dsimp only at hSw); go_simp; try with_reducible rfl)
  try simp only [Act.put, List.setIfInBounds_toArray, List.set_cons_zero, List.set_cons_succ]
  refine wpAnyH_take (i := 3) (oi := _) (v := ?_) rfl (by kernel_rfl) (by kernel_rfl) (by kernel_rfl) (fun _ _ _ h => h) (Or.inl ⟨by rfl, ?_⟩) (by assumption) ?_
  rotate_left
  · (intro w hSw; (try dsimp only at hSw); go_simp; try with_reducible rfl)
  try simp only [Act.put, List.setIfInBounds_toArray, List.set_cons_zero, List.set_cons_succ]
  refine wpAnyH_take (i := 5) (oi := _) (v := ?_) rfl (by kernel_rfl) (by kernel_rfl) (by kernel_rfl) (fun _ _ _ h => h) (Or.inl ⟨by rfl, ?_⟩) (by assumption) ?_
  rotate_left
  · (intro w hSw; (try dsimp only at hSw); go_simp; try with_reducible rfl)
  try simp only [Act.put, List.setIfInBounds_toArray, List.set_cons_zero, List.set_cons_succ]
  refine wpAnyH_take (i := 6) (oi := _) (v := ?_) rfl (by kernel_rfl) (by kernel_rfl) (by kernel_rfl) (fun _ _ _ h => h) (Or.inl ⟨by rfl, ?_⟩) (by assumption) ?_
  rotate_left
  · (intro w hSw; (try dsimp only at hSw); go_simp; try with_reducible rfl)
  try simp only [Act.put, List.setIfInBounds_toArray, List.set_cons_zero, List.set_cons_succ]
  refine wpAnyH_take (i := 7) (oi := _) (v := ?_) rfl (by kernel_rfl) (by kernel_rfl) (by kernel_rfl) (fun _ _ _ h => h) (Or.inl ⟨by rfl, ?_⟩) (by assumption) ?_
  rotate_left
  · (intro w hSw; (try dsimp only at hSw); go_simp; try with_reducible rfl)
  try simp only [Act.put, List.setIfInBounds_toArray, List.set_cons_zero, List.set_cons_succ]
  refine wpAnyH_take (i := 8) (oi := _) (v := ?_) rfl (by kernel_rfl) (by kernel_rfl) (by kernel_rfl) (fun _ _ _ h => h) (Or.inl ⟨by rfl, ?_⟩) (by assumption) ?_
  rotate_left
  · (intro w hSw; (try dsimp only at hSw); go_simp; try with_reducible rfl)
  try simp only [Act.put, List.setIfInBounds_toArray, List.set_cons_zero, List.set_cons_succ]
  refine wpAnyH_take (i := 10) (oi := _) (v := ?_) rfl (by kernel_rfl) (by kernel_rfl) (by kernel_rfl) (fun _ _ _ h => h) (Or.inl ⟨by rfl, ?_⟩) (by assumption) ?_
  rotate_left
  · (intro w hSw; (try dsimp only at hSw); go_simp; try with_reducible rfl)
  try simp only [Act.put, List.setIfInBounds_toArray, List.set_cons_zero, List.set_cons_succ]
  refine wpAnyH_take (i := 11) (oi := _) (v := ?_) rfl (by kernel_rfl) (by kernel_rfl) (by kernel_rfl) (fun _ _ _ h => h) (Or.inl ⟨by rfl, ?_⟩) (by assumption) ?_
  rotate_left
  · (intro w hSw; (try dsimp only at hSw); go_simp; try with_reducible rfl)
  try simp only [Act.put, List.setIfInBounds_toArray, List.set_cons_zero, List.set_cons_succ]
  refine wpAnyH_take (i := 12) (oi := _) (v := ?_) rfl (by kernel_rfl) (by kernel_rfl) (by kernel_rfl) (fun _ _ _ h => h) (Or.inl ⟨by rfl, ?_⟩) (by assumption) ?_
  rotate_left
  · (intro w hSw; (try dsimp only at hSw); go_simp; try with_reducible rfl)
  try simp only [Act.put, List.setIfInBounds_toArray, List.set_cons_zero, List.set_cons_succ]
  refine wpAnyH_take (i := 13) (oi := _) (v := ?_) rfl (by kernel_rfl) (by kernel_rfl) (by kernel_rfl) (fun _ _ _ h => h) (Or.inl ⟨by rfl, ?_⟩) (by assumption) ?_
  rotate_left
  · (intro w hSw; (try dsimp only at hSw); go_simp; try with_reducible rfl)
  try simp only [Act.put, List.setIfInBounds_toArray, List.set_cons_zero, List.set_cons_succ]
  refine wpAnyH_ready (rs := [4]) (by kernel_rfl) (by simp) ?_
  refine AllReadyH.cons (o := _) rfl (fun K hK => ?_) AllReadyH.nil
  go_simp
  refine hK.out _ _ (HC.out _ HB0.out.drew.drew) (fun hHeld => ?_)
  clear hK K
  try simp only [Act.put, List.setIfInBounds_toArray, List.set_cons_zero, List.set_cons_succ]
  refine wpAnyH_ready (rs := [9]) (by kernel_rfl) (by simp) ?_
  refine AllReadyH.cons (o := _) rfl (fun K hK => ?_) AllReadyH.nil
  go_simp
  go_at_call 16; refine (HP.out _ _ _ _).mono ?_; rintro e w1 ⟨r1, rfl, h1, hb1⟩
  go_wp2_with fail
  refine hK.out _ _ (HC.out _ (below_step HB0.out.drew.drew hb1)) (fun hHeld => ?_)
  clear hK K
  try simp only [Act.put, List.setIfInBounds_toArray, List.set_cons_zero, List.set_cons_succ]
  refine wpAnyH_ready (rs := [14]) (by kernel_rfl) (by simp) ?_
  refine AllReadyH.cons (o := _) rfl (fun K hK => ?_) AllReadyH.nil
  go_simp
  go_at_call 16; refine (HP.out _ _ _ _).mono ?_; rintro e w2 ⟨r2, rfl, h2, hb2⟩
  go_wp2_with fail
  refine hK.out _ _ (HC.out _ (below_step (below_step HB0.out.drew.drew hb1) hb2)) (fun hHeld => ?_)
  clear hK K
  try simp only [Act.put, List.setIfInBounds_toArray, List.set_cons_zero, List.set_cons_succ]
  refine wpAnyH_ready (rs := [15]) (by kernel_rfl) (by simp) ?_
  refine AllReadyH.cons (o := _) rfl (fun K hK => ?_) AllReadyH.nil
  go_simp
  go_at_call 7; refine (HQ.out _ _).mono ?_; rintro e w3 ⟨r3, rfl, h3, hb3⟩
  go_wp2_with fail
  refine hK.out _ _ (HC.out _ (below_step (below_step (below_step HB0.out.drew.drew hb1) hb2) hb3)) (fun hHeld => ?_)
  clear hK K
  try simp only [Act.put, List.setIfInBounds_toArray, List.set_cons_zero, List.set_cons_succ]
  refine wpAnyH_take (i := 16) (oi := ⟨some 2, _, _, _, _, _⟩) (v := ?_) rfl (by kernel_rfl) (by kernel_rfl) (by kernel_rfl) (fun _ _ _ h => h) (Or.inl ⟨by rfl, ?_⟩) (by assumption) ?_
  rotate_left
  · (intro w hSw; (try dsimp only at hSw); go_simp; try with_reducible rfl)
  try simp only [Act.put, List.setIfInBounds_toArray, List.set_cons_zero, List.set_cons_succ]
  refine wpAnyH_done (by kernel_rfl) ?_ _
  go_wp2
  go_ret
  refine ⟨_, rfl, ?_, below_step ((Below.refl _ _).alloc (Nat.le_refl _) _) (below_step (below_step (below_step HB0.out.drew.drew hb1) hb2) hb3)⟩
  have h := h3.out _ (h2.out _ (h1.out none (nanW_nan _ _ _)))
  unfold lenO
  rw [HM.out]
  exact h
theorem lengthOf_any (x y z : Nat) (w : World) :
    Calls Try.prog 9 #[.agg #[.float .f64 x, .float .f64 y, .float .f64 z]] w fun e w' => ∃ r, e = .returned (.float .f64 r) ∧ Sft (lenO x y z) r ∧ Below w.heap.size w w' := by
  cases hm : double.mul x x with
  | none => exact lengthOf_nan x y z hm w
  | some v => exact lengthOf_num x y z v hm w
end Go.Proofs.Ytpkifhmnibepiaa
