/- Add of two numbers of two signs. -/
import Derived.Test.YtmkdcnemocdefaaGreatFmtAdd1
import Derived.Test.YtmkdcnemocdefaaGreatFmtFlo8
import Derived.Test.YtmkdcnemocdefaaGreatFmtFlo9
import Derived.Test.YtmkdcnemocdefaaGreatFmtSet
namespace Go.Proofs.YtmkdcnemocdefaaGreatFmt
open Go.RowKit

set_option maxRecDepth 20000 in
set_option maxHeartbeats 4000000 in
theorem add_unlike {K B : Nat} {w : World} {b g c n p gy : Nat} {acc ay : Int} {sx sy : Bool} {f : Nat → Nat} {v A1 A2 S1 S2 : Nat} (h : Pair K B w b g c n p gy acc ay sx sy f v A1 A2 S1 S2) (hs : sx ≠ sy) :
    Calls Tryz.prog 9 #[.pointer (some ⟨b, 0, none⟩), .pointer (some ⟨b, 0, none⟩), .pointer (some ⟨p, 0, none⟩)] w fun e w' => e = .returned (.pointer (some ⟨b, 0, none⟩)) ∧ (S2 < S1 → SubR K w w' b g c sx (S1 - S2)) ∧ (S1 ≤ S2 → SubR K w w' b g c (!sx) (S2 - S1)) := by
  have hP := h.s4 sx
  have HC := Lib.hid (ucmp_any K b p g gy c 1 n 1 A1 A2 S1 S2 2400 53 acc ay sx sy f (fun _ => v) (w.setCell ⟨b, 4, none⟩ (.bool sx)) hP.fx hP.fy (fun j hj => by rw [Nat.zero_add]; exact hP.bx.cell j (by have := hP.nc; omega)) (fun j hj => by rw [Nat.zero_add]; exact hP.bv.cell j hj) hP.wf (fun _ _ => hP.wv) hP.m1 (by rw [num_one]; exact hP.m2) (by have := hP.n38; omega) (by omega))
  have x0 := h.fx.c0
  have x3 := h.fx.c3
  have x4 := h.fx.c4
  have xf := h.fx.fr 4
  have y3 := h.fy.c3
  have y4 := h.fy.c4
  have HFr : Hid (Fr w (w.setCell ⟨b, 4, none⟩ (.bool sx)) b g) := Lib.hid ((Fr.refl w b g).setB 4 (.bool sx))
  have HP := Lib.hid hP
  have eb : (sx == sy) = false := beq_eq_false_iff_ne.2 hs
  clear h hP hs
  rcases Nat.lt_or_ge S2 S1 with q | q
  · have HS := Lib.hid (fun m => usub_one (HP.out.drewN m) q)
    have HQ := Lib.hid q
    clear q
    go_enter Tryz.func9, Tryz.ntmps9
    go_wp2_with fail
    refine HC.out.mono ?_; rintro e w1 ⟨r, rfl, hr, m, rfl⟩
    have r0 : (0 : Int) < r := hr.2 HQ.out
    clear hr
    go_wp2_with fail
    refine (HS.out _).mono ?_; rintro e w2 ⟨rfl, hR⟩
    have HR := Lib.hid (hR.of (HFr.out.drewN m))
    obtain ⟨fm, z3, hfm, z1⟩ := hR.cells
    clear hR x0 x3 x4 xf y3 y4 r0
    rcases hfm with rfl | rfl
    all_goals
      go_wp2
      go_ret
      exact ⟨rfl, fun _ => HR.out, fun k => absurd HQ.out (Nat.not_lt.2 k)⟩
  · have HS : Hid (∀ m, Calls Tryz.prog 35 #[.pointer (some ⟨b, 0, none⟩), .pointer (some ⟨p, 0, none⟩), .pointer (some ⟨b, 0, none⟩)] (((w.setCell ⟨b, 4, none⟩ (.bool sx)).drewN m).setCell ⟨b, 4, none⟩ (.bool (!sx))) fun e w' => e = .returned (.tuple #[]) ∧ SubR K (((w.setCell ⟨b, 4, none⟩ (.bool sx)).drewN m).setCell ⟨b, 4, none⟩ (.bool (!sx))) w' b g c (!sx) (S2 - S1)) := Lib.hid (fun m => usub_two ((HP.out.drewN m).s4 (!sx)) q)
    have HQ := Lib.hid q
    clear q
    go_enter Tryz.func9, Tryz.ntmps9
    go_wp2_with fail
    refine HC.out.mono ?_; rintro e w1 ⟨r, rfl, hr, m, rfl⟩
    have r0 : ¬ ((0 : Int) < r) := fun k => absurd (hr.1 k) (Nat.not_lt.2 HQ.out)
    clear hr
    go_wp2_with fail
    refine (HS.out m).mono ?_; rintro e w2 ⟨rfl, hR⟩
    have HR := Lib.hid (hR.of ((HFr.out.drewN m).setB 4 (.bool (!sx))))
    obtain ⟨fm, z3, hfm, z1⟩ := hR.cells
    clear hR x0 x3 x4 xf y3 y4 r0
    rcases hfm with rfl | rfl
    all_goals
      go_wp2
      go_ret
      exact ⟨rfl, fun k => absurd k (Nat.not_lt.2 HQ.out), fun _ => HR.out⟩
end Go.Proofs.YtmkdcnemocdefaaGreatFmt

namespace Go.Proofs.YtmkdcnemocdefaaGreatFmt
open Go.RowKit

set_option maxRecDepth 20000 in
theorem add_y0 (b p : Nat) (acc a2 ex ey : Int) (neg sy : Bool) (mv my : Value) (w : World) (h : Flt w b 2400 acc 1 neg mv ex) (hy : Flt w p 53 a2 0 sy my ey) :
    Calls Tryz.prog 9 #[.pointer (some ⟨b, 0, none⟩), .pointer (some ⟨b, 0, none⟩), .pointer (some ⟨p, 0, none⟩)] w fun e w' => e = .returned (.pointer (some ⟨b, 0, none⟩)) ∧ ∃ m, w' = (w.drewN m).setCell ⟨b, 2, none⟩ (.int .i8 0) := by
  have HS := Lib.hid (fun m => setSelf_any b 2400 1 acc ex neg mv (w.drewN m) (h.drewN m))
  have x0 := h.c0
  have x3 := h.c3
  have y3 := hy.c3
  have x3' : w.cell? ⟨b, 3, none⟩ = some (.int .u8 1) := x3
  have y3' : w.cell? ⟨p, 3, none⟩ = some (.int .u8 0) := y3
  clear h hy
  go_enter Tryz.func9, Tryz.ntmps9
  go_wp2_with fail
  go_quiet (fail)
  go_wp2_with fail
  refine (HS.out _).mono ?_; rintro e w2 ⟨rfl, rfl⟩
  go_wp2
  go_ret
  exact ⟨rfl, _, rfl⟩
set_option maxRecDepth 20000 in
theorem add_00 (b p : Nat) (acc a2 ex ey : Int) (neg sy : Bool) (mv my : Value) (w : World) (h : Flt w b 2400 acc 0 neg mv ex) (hy : Flt w p 53 a2 0 sy my ey) :
    Calls Tryz.prog 9 #[.pointer (some ⟨b, 0, none⟩), .pointer (some ⟨b, 0, none⟩), .pointer (some ⟨p, 0, none⟩)] w fun e w' => e = .returned (.pointer (some ⟨b, 0, none⟩)) ∧ ∃ m ng, w' = (((w.drewN m).setCell ⟨b, 2, none⟩ (.int .i8 0)).setCell ⟨b, 3, none⟩ (.int .u8 0)).setCell ⟨b, 4, none⟩ (.bool ng) := by
  have x0 := h.c0
  have x2 := h.c2
  have x3 := h.c3
  have x4 := h.c4
  have y3 := hy.c3
  have y4 := hy.c4
  have f2 := h.fr 2
  have f3 := h.fr 3
  have f4 := h.fr 4
  have x3' : w.cell? ⟨b, 3, none⟩ = some (.int .u8 0) := x3
  have y3' : w.cell? ⟨p, 3, none⟩ = some (.int .u8 0) := y3
  have hbp : p ≠ b ∨ p = b := by omega
  have y4' : ∀ m, ((((w.drewN m).setCell ⟨b, 2, none⟩ (.int .i8 0)).setCell ⟨b, 3, none⟩ (.int .u8 0)).cell? ⟨p, 4, none⟩ = some (.bool sy)) := fun m => by
    rcases hbp with e | e
    · rw [cell_of_heap (heap_set_far e _ _), cell_of_heap (heap_set_far e _ _)]; exact y4
    · subst e
      rw [World.cell?_setCell_other _ _ _ _ (by simp), World.cell?_setCell_other _ _ _ _ (by simp)]; exact y4
  clear h hy hbp
  cases neg
  all_goals
    go_enter Tryz.func9, Tryz.ntmps9
    go_wp2_with fail
    go_quiet (fail)
    go_wp2
    go_ret
    exact ⟨rfl, _, _, rfl⟩
set_option maxRecDepth 20000 in
theorem add_x0 (b p g c gy v : Nat) (acc a2 ex ey : Int) (neg sy : Bool) (mv : Value) (w : World) (h : Flt w b 2400 acc 0 neg mv ex) (hO : Old w mv g c) (hbg : b ≠ g) (hy : Flt w p 53 a2 1 sy (.slice (some ⟨gy, 0, none⟩) 1 1) ey) (hv : Blk w gy 1 (fun _ => v)) (hbp : b ≠ p) (hby : b ≠ gy) (hpg : p ≠ g) (wv : v < 2 ^ 64) (v0 : v ≠ 0) :
    Calls Tryz.prog 9 #[.pointer (some ⟨b, 0, none⟩), .pointer (some ⟨b, 0, none⟩), .pointer (some ⟨p, 0, none⟩)] w fun e w' => e = .returned (.pointer (some ⟨b, 0, none⟩)) ∧ ∃ g' c' f, Flt w' b 2400 0 1 sy (.slice (some ⟨g', 0, none⟩) 1 c') ey ∧ Blk w' g' c' f ∧ f 0 = v ∧ 1 ≤ c' ∧ b ≠ g' ∧ (g' = g ∧ c' = c ∨ w.heap.size ≤ g' ∧ c' ≤ 5) ∧ Fr w w' b g := by
  have HS : Hid (∀ m, Calls Tryz.prog 36 #[.pointer (some ⟨b, 0, none⟩), .pointer (some ⟨p, 0, none⟩)] (w.drewN m) fun e w' => e = .returned (.pointer (some ⟨b, 0, none⟩)) ∧ ∃ g' c' f, Flt w' b 2400 0 1 sy (.slice (some ⟨g', 0, none⟩) 1 c') ey ∧ Blk w' g' c' f ∧ f 0 = v ∧ 1 ≤ c' ∧ b ≠ g' ∧ (g' = g ∧ c' = c ∨ w.heap.size ≤ g' ∧ c' ≤ 5) ∧ Fr w w' b g) := Lib.hid (fun m =>
    (setSum_any b p g c gy v acc a2 ex ey neg sy mv (w.drewN m) (h.drewN m) (by
      rcases hO with e | ⟨k, f, e, hb⟩
      · exact Or.inl e
      · exact Or.inr ⟨k, f, e, hb.drewN m⟩) hbg (hy.drewN m) (hv.drewN m) hbp hby hpg wv v0).mono (by
        rintro e w' ⟨h1, g', c', f, a1, a2, a3, a4, a5, a6, a7⟩
        rw [heap_drewN] at a6
        exact ⟨h1, g', c', f, a1, a2, a3, a4, a5, a6, ((Fr.refl w b g).drewN m).trans a7 (Or.inl rfl)⟩))
  have x0 := h.c0
  have x3 := h.c3
  have y3 := hy.c3
  have x3' : w.cell? ⟨b, 3, none⟩ = some (.int .u8 0) := x3
  have y3' : w.cell? ⟨p, 3, none⟩ = some (.int .u8 1) := y3
  clear h hy hO hv
  go_enter Tryz.func9, Tryz.ntmps9
  go_wp2_with fail
  go_quiet (fail)
  go_wp2_with fail
  refine (HS.out _).mono ?_; rintro e w2 ⟨rfl, hR⟩
  have HR := Lib.hid hR
  clear hR
  go_wp2
  go_ret
  exact ⟨rfl, HR.out⟩
end Go.Proofs.YtmkdcnemocdefaaGreatFmt
