/- The scan of an angle's text: wrong, take, need, number. -/
import Derived.Test.YtpkifhmnibepiaaDoorScan
namespace Go.Proofs.YtpkifhmnibepiaaDoor
open Go.RowKit

section
variable {w0 : World} {sb r N cap : Nat} {L : Nat → Int}
/-- It panics with the place. -/
def Stops (w0 : World) (sb r N cap : Nat) (k : Nat) (e : Ending) (w' : World) : Prop := e = .panicked [{ v := stopV k, recovered := false }] ∧ Sc w0 sb r N cap k w'
theorem wrong_any (k : Nat) (w : World) (h : Sc w0 sb r N cap k w) :
    Calls Tryd.prog 58 #[.pointer (some ⟨sb, 0, none⟩)] w (Stops w0 sb r N cap k) := by
  have H := Lib.hid h
  obtain ⟨_, h1, h2, _⟩ := h
  go_enter Tryd.func58, Tryd.ntmps58
  go_wp2
  exact ⟨rfl, rfl, H.out⟩
set_option maxHeartbeats 1000000 in
theorem take_no (ho : ScOk w0 sb r N L) (k : Nat) (c : Int) (w : World) (h : Sc w0 sb r N cap k w) (hs : seeF N L k ≠ c) :
    Calls Tryd.prog 62 #[.pointer (some ⟨sb, 0, none⟩), .int .i32 c] w fun e w' => e = .returned (.bool false) ∧ Sc w0 sb r N cap k w' := by
  have H := Lib.hid h
  have hN := ho.2.1
  obtain ⟨_, h1, h2, _⟩ := h
  by_cases d : k < N
  · have h3 := H.out.row ho d
    have d1 : decide ((k : Int) < N) = true := by simp; omega
    have g1 : (0 : Int) ≤ k := by omega
    have g2 : (k : Int) < N := by omega
    rw [seeF_in d] at hs
    generalize L k = x at *
    have d2 : (x == c) = false := by simpa using hs
    clear ho hs
    go_enter Tryd.func62, Tryd.ntmps62
    go_wp2
    go_quiet (fail)
    go_wp2
    go_ret
    exact ⟨rfl, H.out.drewN _⟩
  · have d1 : decide ((k : Int) < N) = false := by simp; omega
    clear ho hs
    go_enter Tryd.func62, Tryd.ntmps62
    go_wp2
    go_quiet (fail)
    go_wp2
    go_ret
    exact ⟨rfl, H.out.drewN _⟩
set_option maxHeartbeats 1000000 in
theorem take_yes (ho : ScOk w0 sb r N L) (k : Nat) (c : Int) (hc : 0 ≤ c) (w : World) (h : Sc w0 sb r N cap k w) (hs : seeF N L k = c) :
    Calls Tryd.prog 62 #[.pointer (some ⟨sb, 0, none⟩), .int .i32 c] w fun e w' => e = .returned (.bool true) ∧ k < N ∧ Sc w0 sb r N cap (k + 1) w' := by
  have H := Lib.hid h
  have hN := ho.2.1
  have d : k < N := by
    by_cases d : k < N
    · exact d
    · rw [seeF_out d] at hs; omega
  have D := Lib.hid d
  obtain ⟨_, h1, h2, h4⟩ := h
  have h3 := H.out.row ho d
  have d1 : decide ((k : Int) < N) = true := by simp; omega
  have g1 : (0 : Int) ≤ k := by omega
  have g2 : (k : Int) < N := by omega
  rw [seeF_in d] at hs
  generalize L k = x at *
  have d2 : (x == c) = true := by simpa using hs
  clear ho hs
  go_enter Tryd.func62, Tryd.ntmps62
  go_wp2
  go_quiet (fail)
  go_wp2
  go_ret
  exact ⟨rfl, D.out, by simpa using (H.out.drewN _).put (k + 1)⟩
end
end Go.Proofs.YtpkifhmnibepiaaDoor
