/- samePicture of package meridianlaw4, at pictures that are the same. -/
import Derived.Test.YtjcmpkkflboaoaaGreatDoorPicE
namespace Go.Proofs.YtjcmpkkflboaoaaGreatDoor
open Go.RowKit

set_option maxRecDepth 10000 in
set_option maxHeartbeats 2000000 in
theorem samePicture_any (W H : Int) (f g : Nat → Int) (b o : Nat) (a a' : Option Addr) (n cap cap' : Nat) (w : World) (hp : PicAt w b o W H a' n cap' g) (hr : IRow w a n f) (hfg : ∀ j, j < n → f j = g j) (hn : n ≤ 1000000) :
    Calls Tryz.prog 11 #[.agg #[.int .i64 W, .int .i64 H, .slice a n cap], .pointer (some ⟨b, o, none⟩)] w fun e w' => e = .returned (.bool true) ∧ Below w.heap.size w w' := by
  have hb0 : ∀ o', Below w.heap.size w (w.alloc o') := fun o' => (Below.refl _ _).alloc (Nat.le_refl _) _
  have HSI := Lib.hid (fun w' (hb : Below w.heap.size w w') => sameInts_any f g a a' n cap cap' hn w' (hr.below hb) (hp.2.2.2.below hb) hfg)
  have HB0 := Lib.hid hb0
  have HPi := Lib.hid hp
  have e1 : (W == W) = true := by simp
  have e2 : (H == H) = true := by simp
  clear hp hr hfg hb0
  go_enter Tryz.func11, Tryz.ntmps11
  go_wp2
  obtain ⟨O, hO⟩ : ∃ O : Obj, Obj.cells #[.int .i64 W, .int .i64 H, .slice a n cap] 33 = O := ⟨_, rfl⟩
  have hw0 := HB0.out O
  have c0 : (w.alloc O).cell? ⟨w.heap.size, 0, none⟩ = some (.int .i64 W) := by subst hO; simp
  have c1 : (w.alloc O).cell? ⟨w.heap.size, 1, none⟩ = some (.int .i64 H) := by subst hO; simp
  have c2 : (w.alloc O).cell? ⟨w.heap.size, 2, none⟩ = some (.slice a n cap) := by subst hO; simp
  have hl : w.heap.size < (w.alloc O).heap.size := by subst hO; simp
  rw [hO]
  clear hO
  have HW0 := Lib.hid hw0
  clear hw0
  generalize w.alloc O = w1 at *
  have HS : Hid (∀ W', Below w1.heap.size w1 W' → (W'.cell? ⟨w.heap.size, 0, none⟩ = some (.int .i64 W) ∧ W'.cell? ⟨w.heap.size, 1, none⟩ = some (.int .i64 H) ∧ W'.cell? ⟨w.heap.size, 2, none⟩ = some (.slice a n cap)) ∧ W'.cell? ⟨b, o, none⟩ = some (.int .i64 W) ∧ W'.cell? ⟨b, o + 1, none⟩ = some (.int .i64 H) ∧ W'.cell? ⟨b, o + 2, none⟩ = some (.slice a' n cap')) := Lib.hid (fun W' hb => by
    have hq := HPi.out.below (below_step HW0.out hb)
    exact ⟨⟨(hb.cell hl).trans c0, (hb.cell hl).trans c1, (hb.cell hl).trans c2⟩, hq.1, hq.2.1, hq.2.2.1⟩)
  have HS0 := Lib.hid (HS.out w1 (Below.refl _ _))
  have HS1 := Lib.hid (HS.out w1.drew (Below.refl _ _).drew)
  have HS3 := Lib.hid (fun w3 (hb : Below w1.drew.heap.size w1.drew w3) => HS.out w3 (below_step (Below.refl _ _).drew hb))
  have HSd := Lib.hid (HSI.out w1.drew HW0.out.drew)
  clear c0 c1 c2
  obtain ⟨⟨c0, c1, c2⟩, d0, d1, d2⟩ := HS0.out
  go_region_held3 (fun w' => (w'.cell? ⟨w.heap.size, 0, none⟩ = some (.int .i64 W) ∧ w'.cell? ⟨w.heap.size, 1, none⟩ = some (.int .i64 H) ∧ w'.cell? ⟨w.heap.size, 2, none⟩ = some (.slice a n cap)) ∧ w'.cell? ⟨b, o, none⟩ = some (.int .i64 W) ∧ w'.cell? ⟨b, o + 1, none⟩ = some (.int .i64 H) ∧ w'.cell? ⟨b, o + 2, none⟩ = some (.slice a' n cap'))
    (first | (exact HS3.out _ hb3) | (exact HS0.out) | (exact HS1.out) | go_keep)
    (first | (go_at_call 36; with_reducible refine HSd.out.mono ?_; rintro e w3 ⟨rfl, hb3⟩))
  all_goals
    have HB := Lib.hid (below_step HW0.out (below_step (Below.refl _ _).drew hb3))
    clear hb3
    go_wp2
    go_ret
    exact ⟨rfl, HB.out⟩
end Go.Proofs.YtjcmpkkflboaoaaGreatDoor
