/- The scan of an angle's text: its small methods. -/
import Derived.Test.YtpkifhmnibepiaaDoorScanP
namespace Go.Proofs.YtpkifhmnibepiaaDoor
open Go.RowKit

def ScOk (w0 : World) (sb r N : Nat) (L : Nat → Int) : Prop := r < sb ∧ N ≤ 1000000 ∧ ∀ j, j < N → w0.cell? ⟨r, j, none⟩ = some (.int .i32 (L j))
def Sc (w0 : World) (sb r N cap : Nat) (k : Nat) (w : World) : Prop :=
  Below sb w0 w ∧ w.cell? ⟨sb, 0, none⟩ = some (.slice (some ⟨r, 0, none⟩) N cap) ∧ w.cell? ⟨sb, 1, none⟩ = some (.int .i64 k) ∧ w.frozen? ⟨sb, 1, none⟩ = false
def seeF (N : Nat) (L : Nat → Int) (i : Nat) : Int := if i < N then L i else -2
def stopV (k : Nat) : Value := .iface 158 (.int .i64 k)

section
variable {w0 : World} {sb r N cap : Nat} {L : Nat → Int}
theorem Sc.drewN {k : Nat} {w : World} (h : Sc w0 sb r N cap k w) (n : Nat) : Sc w0 sb r N cap k (w.drewN n) :=
  ⟨below_drewN h.1 n, by rw [World.cell?_drewN]; exact h.2.1, by rw [World.cell?_drewN]; exact h.2.2.1, by rw [World.frozen?_drewN]; exact h.2.2.2⟩
theorem Sc.put {k : Nat} {w : World} (h : Sc w0 sb r N cap k w) (j : Nat) : Sc w0 sb r N cap j (w.setCell ⟨sb, 1, none⟩ (.int .i64 j)) :=
  ⟨h.1.setCell (Nat.le_refl _) _, by rw [World.cell?_setCell_other _ _ _ _ (by simp)]; exact h.2.1, World.cell?_setCell_same _ _ _ h.2.2.1, by rw [World.frozen?_setCell]; exact h.2.2.2⟩
theorem Sc.row {k : Nat} {w : World} (h : Sc w0 sb r N cap k w) (ho : ScOk w0 sb r N L) {j : Nat} (hj : j < N) : w.cell? ⟨r, j, none⟩ = some (.int .i32 (L j)) := by
  rw [h.1.cell (p := ⟨r, j, none⟩) ho.1]; exact ho.2.2 j hj
theorem seeF_in {i : Nat} (h : i < N) : seeF N L i = L i := if_pos h
theorem seeF_out {i : Nat} (h : ¬ i < N) : seeF N L i = -2 := if_neg h
theorem isD_lt {i : Nat} (h : isD (seeF N L i) = true) : i < N := by
  by_cases c : i < N
  · exact c
  · rw [seeF_out c] at h; cases h

set_option maxHeartbeats 1000000 in
theorem digit_any (ho : ScOk w0 sb r N L) (k : Nat) (w : World) (h : Sc w0 sb r N cap k w) :
    Calls Tryd.prog 112 #[.pointer (some ⟨sb, 0, none⟩)] w fun e w' => e = .returned (.bool (isD (seeF N L k))) ∧ Sc w0 sb r N cap k w' := by
  have H := Lib.hid h
  have hN := ho.2.1
  obtain ⟨_, h1, h2, _⟩ := h
  by_cases c : k < N
  · have h3 := H.out.row ho c
    have d1 : decide ((k : Int) < N) = true := by simp; omega
    have g1 : (0 : Int) ≤ k := by omega
    have g2 : (k : Int) < N := by omega
    rw [seeF_in c]
    generalize L k = x at *
    by_cases c1 : 48 ≤ x
    · by_cases c2 : x ≤ 57
      · have e : isD x = true := by simp [isD, c1, c2]
        rw [e]
        have d2 : decide (48 ≤ x) = true := by simpa using c1
        have d3 : decide (x ≤ 57) = true := by simpa using c2
        clear ho e
        go_enter Tryd.func112, Tryd.ntmps112
        go_wp2
        go_quiet (fail)
        go_wp2
        go_ret
        exact ⟨rfl, H.out.drewN _⟩
      · have e : isD x = false := by simp [isD]; omega
        rw [e]
        have d2 : decide (48 ≤ x) = true := by simpa using c1
        have d3 : decide (x ≤ 57) = false := by simpa using c2
        clear ho e
        go_enter Tryd.func112, Tryd.ntmps112
        go_wp2
        go_quiet (fail)
        go_wp2
        go_ret
        exact ⟨rfl, H.out.drewN _⟩
    · have e : isD x = false := by simp [isD]; omega
      rw [e]
      have d2 : decide (48 ≤ x) = false := by simpa using c1
      clear ho e
      go_enter Tryd.func112, Tryd.ntmps112
      go_wp2
      go_quiet (fail)
      go_wp2
      go_ret
      exact ⟨rfl, H.out.drewN _⟩
  · have e : isD (seeF N L k) = false := by rw [seeF_out c]; rfl
    rw [e]
    have d1 : decide ((k : Int) < N) = false := by simp; omega
    clear ho e
    go_enter Tryd.func112, Tryd.ntmps112
    go_wp2
    go_quiet (fail)
    go_wp2
    go_ret
    exact ⟨rfl, H.out.drewN _⟩
end
end Go.Proofs.YtpkifhmnibepiaaDoor
