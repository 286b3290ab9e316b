/- What the deferred closures of ReadDegrees and ReadHours do. -/
import Derived.Test.YtpkifhmnibepiaaDoorScan5
import Derived.Test.YtpkifhmnibepiaaDoorCode
import Derived.Defers
import Derived.Recover
import Derived.Laws.Pointers
namespace Go.Proofs.YtpkifhmnibepiaaDoor
open Go.RowKit

theorem caught_nil (p q : Addr) (w : World) :
    Calls Tryd.prog 56 #[.nilIface, .pointer (some p), .pointer (some q)] w fun e w' => e = .returned (.tuple #[]) ∧ w = w' := by
  go_enter Tryd.func56, Tryd.ntmps56
  go_wp2
  refine bodyPost_ret (results_none rfl _ _ _) rfl ?_
  exact ⟨rfl, rfl⟩
theorem stop_assert (k : Int) (w : World) : (Instr.typeAssert (.iface 158 (.int .i64 k)) 20 158 true).run Tryd.prog w = .ok (.tuple #[.int .i64 k, .bool true]) w := by kernel_rfl
set_option maxRecDepth 20000 in
theorem caught_stop (k b c : Nat) (x : Int) (ad : Addr) (w : World) (h1 : w.cell? ⟨b, 0, none⟩ = some (.int .i64 x)) (f1 : w.frozen? ⟨b, 0, none⟩ = false) (h2 : w.cell? ⟨c, 0, none⟩ = some .nilIface) (f2 : w.frozen? ⟨c, 0, none⟩ = false) (hbc : b ≠ c)
    (hE : w.cell? ⟨0, 0, none⟩ = some (.iface 258 (.pointer (some ad)))) :
    Calls Tryd.prog 56 #[stopV k, .pointer (some ⟨b, 0, none⟩), .pointer (some ⟨c, 0, none⟩)] w fun e w' => e = .returned (.tuple #[]) ∧
      w' = ((w.setCell ⟨b, 0, none⟩ (.int .i64 0)).setCell ⟨c, 0, none⟩ (.iface 125 (.pointer (some ⟨w.heap.size, 0, none⟩)))).alloc (.cells #[.int .i64 k, .iface 258 (.pointer (some ad))] 127) := by
  have hb := cell_lt h1
  have hc := cell_lt h2
  have hcb : ¬ c = b := fun e => hbc e.symm
  have hbc' : ¬ b = c := hbc
  unfold stopV
  have ta : (Instr.typeAssert (.iface 158 (.int .i64 k)) 20 158 true).run Tryd.prog w = .ok (.tuple #[.int .i64 k, .bool true]) w := stop_assert k w
  go_enter Tryd.func56, Tryd.ntmps56
  go_wp2
  go_end0
  exact ⟨rfl, rfl⟩
theorem degCl_idle (p q : Addr) (w : World) :
    CallsD Tryd.prog 61 #[.pointer (some p), .pointer (some q)] .returning w fun e u' w' => e = .returned (.tuple #[]) ∧ u' = .returning ∧ w = w' := by
  have HC := Lib.hid (caught_nil p q w)
  refine callsD_of_wpS Tryd.func61 rfl fun c₀ cs hu => ?_
  apply wpS_region
  simp [wpOpsS, go_sem, recoverD, hu, Tryd.ntmps61]
  refine HC.out.mono ?_; rintro e w1 ⟨rfl, rfl⟩
  simp [bodyPostS, results, Tryd.results61]
  cases c₀
  simp_all
theorem degCl_stop (k b c : Nat) (x : Int) (ad : Addr) (w : World) (h1 : w.cell? ⟨b, 0, none⟩ = some (.int .i64 x)) (f1 : w.frozen? ⟨b, 0, none⟩ = false) (h2 : w.cell? ⟨c, 0, none⟩ = some .nilIface) (f2 : w.frozen? ⟨c, 0, none⟩ = false) (hbc : b ≠ c)
    (hE : w.cell? ⟨0, 0, none⟩ = some (.iface 258 (.pointer (some ad)))) :
    CallsD Tryd.prog 61 #[.pointer (some ⟨b, 0, none⟩), .pointer (some ⟨c, 0, none⟩)] (.panicking [{ v := stopV k, recovered := false }]) w fun e u' w' => e = .returned (.tuple #[]) ∧ u' = .panicking [{ v := stopV k, recovered := true }] ∧
      w' = ((w.setCell ⟨b, 0, none⟩ (.int .i64 0)).setCell ⟨c, 0, none⟩ (.iface 125 (.pointer (some ⟨w.heap.size, 0, none⟩)))).alloc (.cells #[.int .i64 k, .iface 258 (.pointer (some ad))] 127) := by
  have HC := Lib.hid (caught_stop k b c x ad w h1 f1 h2 f2 hbc hE)
  clear h1 f1 h2 f2 hE
  refine callsD_of_wpS Tryd.func61 rfl fun c₀ cs hu => ?_
  apply wpS_region
  simp [wpOpsS, go_sem, recoverD, hu, Tryd.ntmps61]
  refine HC.out.mono ?_; rintro e w1 ⟨rfl, rfl⟩
  simp [bodyPostS, results, Tryd.results61]
theorem houCl_idle (p q : Addr) (w : World) :
    CallsD Tryd.prog 55 #[.pointer (some p), .pointer (some q)] .returning w fun e u' w' => e = .returned (.tuple #[]) ∧ u' = .returning ∧ w = w' := by
  have HC := Lib.hid (caught_nil p q w)
  refine callsD_of_wpS Tryd.func55 rfl fun c₀ cs hu => ?_
  apply wpS_region
  simp [wpOpsS, go_sem, recoverD, hu, Tryd.ntmps55]
  refine HC.out.mono ?_; rintro e w1 ⟨rfl, rfl⟩
  simp [bodyPostS, results, Tryd.results55]
  cases c₀
  simp_all
theorem houCl_stop (k b c : Nat) (x : Int) (ad : Addr) (w : World) (h1 : w.cell? ⟨b, 0, none⟩ = some (.int .i64 x)) (f1 : w.frozen? ⟨b, 0, none⟩ = false) (h2 : w.cell? ⟨c, 0, none⟩ = some .nilIface) (f2 : w.frozen? ⟨c, 0, none⟩ = false) (hbc : b ≠ c)
    (hE : w.cell? ⟨0, 0, none⟩ = some (.iface 258 (.pointer (some ad)))) :
    CallsD Tryd.prog 55 #[.pointer (some ⟨b, 0, none⟩), .pointer (some ⟨c, 0, none⟩)] (.panicking [{ v := stopV k, recovered := false }]) w fun e u' w' => e = .returned (.tuple #[]) ∧ u' = .panicking [{ v := stopV k, recovered := true }] ∧
      w' = ((w.setCell ⟨b, 0, none⟩ (.int .i64 0)).setCell ⟨c, 0, none⟩ (.iface 125 (.pointer (some ⟨w.heap.size, 0, none⟩)))).alloc (.cells #[.int .i64 k, .iface 258 (.pointer (some ad))] 127) := by
  have HC := Lib.hid (caught_stop k b c x ad w h1 f1 h2 f2 hbc hE)
  clear h1 f1 h2 f2 hE
  refine callsD_of_wpS Tryd.func55 rfl fun c₀ cs hu => ?_
  apply wpS_region
  simp [wpOpsS, go_sem, recoverD, hu, Tryd.ntmps55]
  refine HC.out.mono ?_; rintro e w1 ⟨rfl, rfl⟩
  simp [bodyPostS, results, Tryd.results55]
end Go.Proofs.YtpkifhmnibepiaaDoor
