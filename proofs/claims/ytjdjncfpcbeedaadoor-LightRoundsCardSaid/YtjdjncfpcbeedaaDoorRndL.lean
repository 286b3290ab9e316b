/- LightRounds of package meridianlaw4: the law. -/
import Derived.Test.YtjdjncfpcbeedaaDoorRndO
import Derived.Test.YtjdjncfpcbeedaaDoorSmall
import Derived.Test.YtjdjncfpcbeedaaDoorCoded4
namespace Go.Proofs.YtjdjncfpcbeedaaDoor
open Go.RowKit

theorem picB_lt2 (W H : Int) : picB W H < 10 := by unfold picB; split <;> omega
/-- Both sides' answers on a star. -/
theorem round_pair (ad : Nat → Addr) (W H X Y L inn out : Int) (f : Nat → Int) (b o : Nat) (a : Option Addr) (n cap : Nat) (hn : n ≤ 9223372036854775807) : ∃ (r1 r2 r3 : Int) (ev : Value) (e0 : Int),
    (∀ w, Sents w ad → PicAt w b o W H a n cap f → Calls Tryd.prog 9 #[.agg #[.int .i64 W, .int .i64 H, .slice a n cap], .agg #[.int .i64 X, .int .i64 Y, .int .i64 L], .int .i64 inn, .int .i64 out] w fun e w' => e = .returned (.tuple #[.int .i64 r1, .int .i64 r2, .int .i64 r3, ev]) ∧ Below w.heap.size w w') ∧
    (∀ w, PicAt w b o W H a n cap f → Calls Tryd.prog 11 #[.pointer (some ⟨b, o, none⟩), .agg #[.int .i64 X, .int .i64 Y, .int .i64 L], .int .i64 inn, .int .i64 out] w fun e w' => e = .returned (.tuple #[.int .i64 r1, .int .i64 r2, .int .i64 r3, .int .i64 e0]) ∧ Below w.heap.size w w') ∧
    (∀ w, Sents w ad → Calls Tryd.prog 12 #[ev, .int .i64 e0] w fun e w' => e = .returned (.bool true) ∧ Below w.heap.size w w') := by
  by_cases g : picG W H n f
  · by_cases hok : rndOk X Y inn out
    · exact ⟨_, _, _, .nilIface, 0, fun w hE hp => round_ok ad W H X Y L inn out f a n cap w (hE.errs _ (by decide)) hp.2.2.2 g hok.1 hok.2.1 hok.2.2.1 hok.2.2.2.1 hok.2.2.2.2.1 hok.2.2.2.2.2.1 hok.2.2.2.2.2.2, fun w hp => roundOf_ok W H X Y L inn out f b o a n cap w hp g hok, fun w _ => coded4_nil w⟩
    · exact ⟨0, 0, 0, errV ad 4, 5, fun w hE hp => round_shape ad W H X Y L inn out f a n cap w (hE.errs _ (by decide)) hp.2.2.2 g hok, fun w hp => roundOf_shape W H X Y L inn out f b o a n cap w hp g hok, fun w hE => coded4_err ad 4 5 (by decide) (by decide) w hE⟩
  · exact ⟨0, 0, 0, errV ad (picB W H), (picB W H + 1 : Nat), fun w hE hp => round_err ad W H X Y L inn out f a n cap w (hE.errs _ (by decide)) hp.2.2.2 hn g, fun w hp => roundOf_err W H X Y L inn out f b o a n cap w hp hn g, fun w hE => coded4_err ad (picB W H) _ (picB_lt2 W H) (by omega) w hE⟩
/-- The law's own example. -/
theorem round_one (ad : Nat → Addr) (g : Nat) (w : World) (hE : Sents w ad) (hc : w.cell? ⟨g, 0, none⟩ = some (.int .i64 7)) :
    Calls Tryd.prog 9 #[.agg #[.int .i64 1, .int .i64 1, .slice (some ⟨g, 0, none⟩) 1 1], .agg #[.int .i64 512, .int .i64 512, .int .i64 0], .int .i64 1, .int .i64 2] w fun e w' => e = .returned (.tuple #[.int .i64 7, .int .i64 0, .int .i64 1, .nilIface]) ∧ Below w.heap.size w w' := by
  have hI : IRow w (some ⟨g, 0, none⟩) 1 (fun _ => 7) := Or.inr ⟨g, 0, rfl, fun j hj => by
    have hj0 : j = 0 := by omega
    subst hj0
    simpa using hc⟩
  have h := round_ok ad 1 1 512 512 0 1 2 (fun _ => 7) (some ⟨g, 0, none⟩) 1 1 w (hE.errs _ (by decide)) hI ⟨by decide, by decide, by decide, by decide, by decide, fun j _ => ⟨show (0 : Int) ≤ 7 by decide, show (7 : Int) ≤ 65535 by decide⟩⟩ (by decide) (by decide) (by decide) (by decide) (by decide) (by decide) (by decide)
  have e1 : rQ 512 512 1 0 = 0 := by decide
  have e2 : rL (fun _ => 7) (rQ 512 512 1) (1 * 1) 1 = 7 := by rw [rL_in (by rw [e1]; decide)]; rfl
  have e3 : rP (rQ 512 512 1) (1 * 1) 1 = 1 := by rw [rP_in (by rw [e1]; decide)]; rfl
  have e4 : rA (fun _ => 7) (rQ 512 512 1) (1 * 1) (2 * 2) 1 = [] := by rw [rA_in (by rw [e1]; decide)]; rfl
  rw [e2, e3, e4, rG_nil] at h
  exact h
set_option maxRecDepth 20000 in
set_option maxHeartbeats 4000000 in
theorem lightRounds_any (ad : Nat → Addr) {w : World} (x0 : Option Addr) (h0 : PicP w x0) (X Y L : Int) (inn : Int) (_ : In64 inn) (out : Int) (_ : In64 out) (hE : Sents w ad) :
    Calls Tryd.prog 3 #[.pointer x0, .agg #[.int .i64 X, .int .i64 Y, .int .i64 L], .int .i64 inn, .int .i64 out] w fun e w' => e = .returned (.bool true) ∧ Below w.heap.size w w' := by
  obtain ⟨s, hs, hk⟩ := small_is h0
  have HE := Lib.hid hE
  have HSm := Lib.hid hs
  have H1 : Hid (∀ o1, Calls Tryd.prog 9 #[.agg #[.int .i64 1, .int .i64 1, .slice (some ⟨w.heap.size + 1, 0, none⟩) 1 1], .agg #[.int .i64 512, .int .i64 512, .int .i64 0], .int .i64 1, .int .i64 2] ((w.alloc o1).alloc (Obj.cells #[.int .i64 7] 3)) fun e w' => e = .returned (.tuple #[.int .i64 7, .int .i64 0, .int .i64 1, .nilIface]) ∧ Below ((w.alloc o1).alloc (Obj.cells #[.int .i64 7] 3)).heap.size ((w.alloc o1).alloc (Obj.cells #[.int .i64 7] 3)) w') := Lib.hid (fun o1 => round_one ad _ _ (hE.below (below2 _ _)) (by simp))
  clear hE hs
  cases s with
  | false =>
    clear hk h0 HE
    go_enter Tryd.func3, Tryd.ntmps3
    go_wp2_with fail
    refine (H1.out _).mono ?_; rintro e w1 ⟨rfl, hb1⟩
    have B1 := Lib.hid (below_step (below2 _ _) hb1)
    clear hb1 H1
    go_wp2_with fail
    refine (HSm.out _ B1.out).mono ?_; rintro e w2 ⟨rfl, rfl⟩
    go_wp2
    go_ret
    exact ⟨rfl, B1.out⟩
  | true =>
    obtain ⟨b, o, W, H, a, n, cap, f, rfl, hn, _, _, hp⟩ := hk rfl
    obtain ⟨r1, r2, r3, ev, e0, hP, hR, hC⟩ := round_pair ad W H X Y L inn out f b o a n cap (by omega)
    have HP := Lib.hid hP
    have HR := Lib.hid hR
    have HC := Lib.hid hC
    have HPi := Lib.hid hp
    clear hk h0 hP hR hC hp
    go_enter Tryd.func3, Tryd.ntmps3
    go_wp2_with fail
    refine (H1.out _).mono ?_; rintro e w1 ⟨rfl, hb1⟩
    have s0 : w1.cell? ⟨w.heap.size, 0, none⟩ = some (.int .i64 X) := by rw [hb1.cell (p := ⟨w.heap.size, 0, none⟩) (by simp; omega)]; simp
    have s1 : w1.cell? ⟨w.heap.size, 1, none⟩ = some (.int .i64 Y) := by rw [hb1.cell (p := ⟨w.heap.size, 1, none⟩) (by simp; omega)]; simp
    have s2 : w1.cell? ⟨w.heap.size, 2, none⟩ = some (.int .i64 L) := by rw [hb1.cell (p := ⟨w.heap.size, 2, none⟩) (by simp; omega)]; simp
    have hsl : w.heap.size < w1.heap.size := cell_lt s0
    have B1 := Lib.hid (below_step (below2 _ _) hb1)
    clear hb1 H1
    have HS : Hid (∀ W', Below w1.heap.size w1 W' → W'.cell? ⟨b, o, none⟩ = some (.int .i64 W) ∧ W'.cell? ⟨b, o + 1, none⟩ = some (.int .i64 H) ∧ W'.cell? ⟨b, o + 2, none⟩ = some (.slice a n cap) ∧ W'.cell? ⟨w.heap.size, 0, none⟩ = some (.int .i64 X) ∧ W'.cell? ⟨w.heap.size, 1, none⟩ = some (.int .i64 Y) ∧ W'.cell? ⟨w.heap.size, 2, none⟩ = some (.int .i64 L)) := Lib.hid (fun W' hb => by
      have hq := HPi.out.below (below_step B1.out hb)
      exact ⟨hq.1, hq.2.1, hq.2.2.1, by rw [hb.cell (p := ⟨w.heap.size, 0, none⟩) hsl]; exact s0, by rw [hb.cell (p := ⟨w.heap.size, 1, none⟩) hsl]; exact s1, by rw [hb.cell (p := ⟨w.heap.size, 2, none⟩) hsl]; exact s2⟩)
    clear s0 s1 s2
    go_wp2_with fail
    refine (HSm.out _ B1.out).mono ?_; rintro e w2 ⟨rfl, rfl⟩
    have HS0 := Lib.hid (HS.out w1 (Below.refl _ _))
    have HS1 := Lib.hid (HS.out w1.drew (Below.refl _ _).drew)
    have HS3 := Lib.hid (fun w3 (hb : Below w1.drew.heap.size w1.drew w3) => HS.out w3 (below_step (Below.refl _ _).drew hb))
    have HP1 := Lib.hid (HP.out w1.drew (HE.out.below B1.out.drew) (HPi.out.below B1.out.drew))
    obtain ⟨k0, k1, k2, s0, s1, s2⟩ := HS0.out
    clear HSm HP
    go_wp2
    go_region_held3 (fun w' => w'.cell? ⟨b, o, none⟩ = some (.int .i64 W) ∧ w'.cell? ⟨b, o + 1, none⟩ = some (.int .i64 H) ∧ w'.cell? ⟨b, o + 2, none⟩ = some (.slice a n cap) ∧ w'.cell? ⟨w.heap.size, 0, none⟩ = some (.int .i64 X) ∧ w'.cell? ⟨w.heap.size, 1, none⟩ = some (.int .i64 Y) ∧ w'.cell? ⟨w.heap.size, 2, none⟩ = some (.int .i64 L))
      (first | (exact HS3.out _ hb2) | (exact HS0.out) | (exact HS1.out) | go_keep)
      (first | (go_at_call 9; with_reducible refine HP1.out.mono ?_; rintro e w2 ⟨rfl, hb2⟩))
    have C2 : Below w1.heap.size w1 w2 := below_step (Below.refl _ _).drew hb2
    have B2 := Lib.hid (below_step B1.out C2)
    obtain ⟨k0, k1, k2, s0, s1, s2⟩ := HS.out w2 C2
    clear hb2 C2 HS0 HS1 HS3 HP1 HS B1
    go_wp2_with fail
    refine (HR.out _ (HPi.out.below B2.out)).mono ?_; rintro e w3 ⟨rfl, hb3⟩
    have B3 := Lib.hid (below_step B2.out hb3)
    clear hb3 HR B2
    go_wp2_with fail
    refine (HC.out _ (HE.out.below B3.out)).mono ?_; rintro e w4 ⟨rfl, hb4⟩
    have B4 := Lib.hid (below_step B3.out hb4)
    clear hb4 HC B3
    go_wp2
    go_ret
    exact ⟨rfl, B4.out⟩
end Go.Proofs.YtjdjncfpcbeedaaDoor
