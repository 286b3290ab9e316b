/- The reference's scan: its small methods. -/
import Derived.Test.YtpkifhmnibepiaaDoorRunesL
namespace Go.Proofs.YtpkifhmnibepiaaDoor
open Go.RowKit

def RsOk (w0 : World) (sb : Nat) (a : Option Addr) (N : Nat) (L : Nat → Int) : Prop := N ≤ 1000000 ∧ ∀ j, j < N → ∃ r, a = some ⟨r, 0, none⟩ ∧ r < sb ∧ w0.cell? ⟨r, j, none⟩ = some (.int .i64 (L j))
def Rs (w0 : World) (sb : Nat) (a : Option Addr) (N cap k : Nat) (bad : Int) (w : World) : Prop :=
  Below sb w0 w ∧ w.cell? ⟨sb, 0, none⟩ = some (.slice a N cap) ∧ w.cell? ⟨sb, 1, none⟩ = some (.int .i64 k) ∧ w.cell? ⟨sb, 2, none⟩ = some (.int .i64 bad) ∧ w.frozen? ⟨sb, 1, none⟩ = false ∧ w.frozen? ⟨sb, 2, none⟩ = false
def wrB (bad at' : Int) : Int := if bad < 0 then at' else bad
section
variable {w0 : World} {sb : Nat} {a : Option Addr} {N cap : Nat} {L : Nat → Int}
theorem Rs.drewN {k : Nat} {bad : Int} {w : World} (h : Rs w0 sb a N cap k bad w) (n : Nat) : Rs w0 sb a N cap k bad (w.drewN n) :=
  ⟨below_drewN h.1 n, by rw [World.cell?_drewN]; exact h.2.1, by rw [World.cell?_drewN]; exact h.2.2.1, by rw [World.cell?_drewN]; exact h.2.2.2.1, by rw [World.frozen?_drewN]; exact h.2.2.2.2.1, by rw [World.frozen?_drewN]; exact h.2.2.2.2.2⟩
theorem Rs.at {k : Nat} {bad : Int} {w : World} (h : Rs w0 sb a N cap k bad w) (j : Nat) {z : Int} (hz : z = (j : Int)) : Rs w0 sb a N cap j bad (w.setCell ⟨sb, 1, none⟩ (.int .i64 z)) := by
  subst hz
  exact ⟨h.1.setCell (Nat.le_refl _) _, by rw [World.cell?_setCell_other _ _ _ _ (by simp)]; exact h.2.1, World.cell?_setCell_same _ _ _ h.2.2.1, by rw [World.cell?_setCell_other _ _ _ _ (by simp)]; exact h.2.2.2.1, by rw [World.frozen?_setCell]; exact h.2.2.2.2.1, by rw [World.frozen?_setCell]; exact h.2.2.2.2.2⟩
theorem Rs.bad {k : Nat} {bad : Int} {w : World} (h : Rs w0 sb a N cap k bad w) (z : Int) : Rs w0 sb a N cap k z (w.setCell ⟨sb, 2, none⟩ (.int .i64 z)) :=
  ⟨h.1.setCell (Nat.le_refl _) _, by rw [World.cell?_setCell_other _ _ _ _ (by simp)]; exact h.2.1, by rw [World.cell?_setCell_other _ _ _ _ (by simp)]; exact h.2.2.1, World.cell?_setCell_same _ _ _ h.2.2.2.1, by rw [World.frozen?_setCell]; exact h.2.2.2.2.1, by rw [World.frozen?_setCell]; exact h.2.2.2.2.2⟩

set_option maxHeartbeats 1000000 in
theorem see_any (ho : RsOk w0 sb a N L) (k : Nat) (hk : k ≤ 2000000) (bad : Int) (w : World) (h : Rs w0 sb a N cap k bad w) :
    Calls Tryd.prog 64 #[.pointer (some ⟨sb, 0, none⟩)] w fun e w' => e = .returned (.int .i64 (seeF N L k)) ∧ Rs w0 sb a N cap k bad w' := by
  have H := Lib.hid h
  have hN := ho.1
  by_cases c : k < N
  · obtain ⟨r, rfl, hr, h3⟩ := ho.2 k c
    have h3' : w.cell? ⟨r, k, none⟩ = some (.int .i64 (L k)) := by rw [h.1.cell (p := ⟨r, k, none⟩) hr]; exact h3
    obtain ⟨_, h1, h2, _⟩ := h
    have g1 : (0 : Int) ≤ k := by omega
    have g2 : (k : Int) < N := by omega
    rw [seeF_in c]
    clear ho h3 c
    go_enter Tryd.func64, Tryd.ntmps64
    go_wp2
    go_quiet (fail)
    go_wp2
    go_quiet (fail)
    go_wp2
    go_ret
    exact ⟨rfl, (H.out.drewN _).drewN _⟩
  · obtain ⟨_, h1, h2, _⟩ := h
    have g1 : (0 : Int) ≤ k := by omega
    have g2 : (N : Int) ≤ k := by omega
    rw [seeF_out c]
    clear ho c
    go_enter Tryd.func64, Tryd.ntmps64
    go_wp2
    go_quiet (fail)
    go_wp2
    go_ret
    exact ⟨rfl, H.out.drewN _⟩
theorem wrongR_any (k : Nat) (bad at' : Int) (w : World) (h : Rs w0 sb a N cap k bad w) :
    Calls Tryd.prog 69 #[.pointer (some ⟨sb, 0, none⟩), .int .i64 at'] w fun e w' => e = .returned (.tuple #[]) ∧ Rs w0 sb a N cap k (wrB bad at') w' := by
  have H := Lib.hid h
  obtain ⟨_, _, _, h1, _, h2⟩ := h
  by_cases c : bad < 0
  · have e : wrB bad at' = at' := if_pos c
    rw [e]
    clear e
    go_enter Tryd.func69, Tryd.ntmps69
    go_wp2
    go_end0
    exact ⟨rfl, H.out.bad _⟩
  · have e : wrB bad at' = bad := if_neg c
    rw [e]
    clear e
    go_enter Tryd.func69, Tryd.ntmps69
    go_wp2
    go_end0
    exact ⟨rfl, H.out⟩
def needB (s : Nat → Int) (c : Int) (k : Nat) (bad : Int) : Int := if s k = c then bad else wrB bad k
theorem needR_any (ho : RsOk w0 sb a N L) (k : Nat) (hk : k ≤ 2000000) (bad c : Int) (w : World) (h : Rs w0 sb a N cap k bad w) :
    Calls Tryd.prog 66 #[.pointer (some ⟨sb, 0, none⟩), .int .i64 c] w fun e w' => e = .returned (.tuple #[]) ∧ Rs w0 sb a N cap (k + 1) (needB (seeF N L) c k bad) w' := by
  have HS := Lib.hid (see_any (cap := cap) ho k hk bad w h)
  have HW := Lib.hid (fun w h => wrongR_any (w0 := w0) (sb := sb) (a := a) (N := N) (cap := cap) k bad k w h)
  unfold needB
  generalize seeF N L k = x at *
  clear h ho
  by_cases c1 : x = c
  · have b1 : (x != c) = false := by simpa using c1
    rw [if_pos c1]
    clear c1
    go_enter Tryd.func66, Tryd.ntmps66
    go_wp2_with fail
    refine HS.out.mono ?_; rintro e w1 ⟨rfl, h1⟩
    have H1 := Lib.hid h1
    obtain ⟨_, _, x1, _, x2, _⟩ := h1
    clear HS
    go_wp2
    go_end0
    exact ⟨rfl, H1.out.at _ (by omega)⟩
  · have b1 : (x != c) = true := by simpa using c1
    rw [if_neg c1]
    clear c1
    go_enter Tryd.func66, Tryd.ntmps66
    go_wp2_with fail
    refine HS.out.mono ?_; rintro e w1 ⟨rfl, h1⟩
    have H1 := Lib.hid h1
    obtain ⟨_, _, x1, _, x2, _⟩ := h1
    clear HS
    go_wp2_with fail
    refine (HW.out _ H1.out).mono ?_; rintro e w2 ⟨rfl, h2⟩
    have H2 := Lib.hid h2
    clear x1 x2
    obtain ⟨_, _, x1, _, x2, _⟩ := h2
    go_wp2
    go_end0
    exact ⟨rfl, H2.out.at _ (by omega)⟩
end
end Go.Proofs.YtpkifhmnibepiaaDoor
