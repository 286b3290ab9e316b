/- GroundOf of package meridianref4: what it answers of what is wrong. -/
import Derived.Test.YthbekddpnkammaaDoorGrdP
import Derived.Test.YthbekddpnkammaaDoorOwn
import Derived.Test.YthbekddpnkammaaDoorPicE
import Derived.Deep.RegionHeldLaw
import Derived.Deep.AppendLies
namespace Go.Proofs.YthbekddpnkammaaDoor
open Go.RowKit

set_option maxHeartbeats 1000000 in
theorem groundOf_err (W H T : Int) (f : Nat → Int) (b o : Nat) (a : Option Addr) (n cap : Nat) (w : World) (hp : PicAt w b o W H a n cap f) (hn : n ≤ 9223372036854775807) (g : ¬ picG W H n f) :
    Calls Tryd.prog 11 #[.pointer (some ⟨b, o, none⟩), .int .i64 T] w fun e w' =>
      e = .returned (.tuple #[.slice none 0 0, .int .i64 (picB W H + 1 : Nat)]) ∧ Below w.heap.size w w' := by
  have HV := Lib.hid (picE_bad b o W H f a n cap w hp hn g)
  clear hp g
  generalize picB W H = pb at *
  have hpb : (0 : Int) < ((pb + 1 : Nat) : Int) := by omega
  generalize ((pb + 1 : Nat) : Int) = pe at *
  go_enter Tryd.func11, Tryd.ntmps11
  go_wp2_with fail
  refine HV.out.mono ?_; rintro e wa ⟨rfl, hb1⟩
  have HB := Lib.hid hb1
  clear hb1 HV
  go_wp2
  go_ret2
  exact ⟨rfl, HB.out⟩
set_option maxHeartbeats 1000000 in
theorem groundOf_shape (W H T : Int) (f : Nat → Int) (b o : Nat) (a : Option Addr) (n cap : Nat) (w : World) (hp : PicAt w b o W H a n cap f) (g : picG W H n f) (hT : T < 1 ∨ 256 < T) :
    Calls Tryd.prog 11 #[.pointer (some ⟨b, o, none⟩), .int .i64 T] w fun e w' =>
      e = .returned (.tuple #[.slice none 0 0, .int .i64 5]) ∧ Below w.heap.size w w' := by
  have HV := Lib.hid (picE_ok b o W H f a n cap w hp g)
  clear hp g
  go_enter Tryd.func11, Tryd.ntmps11
  go_wp2_with fail
  refine HV.out.mono ?_; rintro e wa ⟨rfl, hb1⟩
  have HB := Lib.hid hb1
  clear hb1 HV
  by_cases c : T < 1
  · have d : decide (T < 1) = true := by simpa using c
    clear hT
    go_wp2
    go_ret2
    exact ⟨rfl, HB.out⟩
  · have d : decide (T < 1) = false := by simpa using c
    have d2 : decide (256 < T) = true := by simp; omega
    clear hT
    go_wp2
    go_ret2
    exact ⟨rfl, HB.out⟩
end Go.Proofs.YthbekddpnkammaaDoor
