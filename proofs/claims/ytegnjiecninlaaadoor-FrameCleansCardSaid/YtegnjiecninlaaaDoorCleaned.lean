/- Cleaned pictures: what the reference's Cleaned computes. -/
import Derived.Test.YtegnjiecninlaaaDoorCleanO
namespace Go.Proofs.YtegnjiecninlaaaDoor
open Go.RowKit

/-- Three pictures behind pointers. -/
def Pics (w : World) (b0 o0 b1 o1 b2 o2 : Nat) (W0 H0 W1 H1 W2 H2 : Int) (a0 a1 a2 : Option Addr) (n0 n1 n2 c0 c1 c2 : Nat) (f0 f1 f2 : Nat → Int) : Prop :=
  PicAt w b0 o0 W0 H0 a0 n0 c0 f0 ∧ PicAt w b1 o1 W1 H1 a1 n1 c1 f1 ∧ PicAt w b2 o2 W2 H2 a2 n2 c2 f2
theorem Pics.below {w w' : World} {b0 o0 b1 o1 b2 o2 : Nat} {W0 H0 W1 H1 W2 H2 : Int} {a0 a1 a2 : Option Addr} {n0 n1 n2 c0 c1 c2 : Nat} {f0 f1 f2 : Nat → Int} (h : Pics w b0 o0 b1 o1 b2 o2 W0 H0 W1 H1 W2 H2 a0 a1 a2 n0 n1 n2 c0 c1 c2 f0 f1 f2) (hb : Below w.heap.size w w') :
    Pics w' b0 o0 b1 o1 b2 o2 W0 H0 W1 H1 W2 H2 a0 a1 a2 n0 n1 n2 c0 c1 c2 f0 f1 f2 := ⟨h.1.below hb, h.2.1.below hb, h.2.2.below hb⟩

set_option maxRecDepth 20000 in
theorem cleaned_bad0 (b0 o0 b1 o1 b2 o2 : Nat) (W0 H0 : Int) (full : Int) (f0 : Nat → Int) (a0 : Option Addr) (n0 c0 : Nat) (w : World) (h : PicAt w b0 o0 W0 H0 a0 n0 c0 f0) (hn : n0 ≤ 9223372036854775807) (g0 : ¬ picG W0 H0 n0 f0) :
    Calls Tryd.prog 28 #[.pointer (some ⟨b0, o0, none⟩), .pointer (some ⟨b1, o1, none⟩), .pointer (some ⟨b2, o2, none⟩), .int .i64 full] w fun e w' => e = .returned (.tuple #[.slice none 0 0, .slice none 0 0, .int .i64 (picB W0 H0 + 1 : Nat)]) ∧ Below w.heap.size w w' := by
  have HE := Lib.hid (picE_bad b0 o0 W0 H0 f0 a0 n0 c0 w h hn g0)
  have hp : 0 < picB W0 H0 + 1 := by omega
  have hb : (((picB W0 H0 + 1 : Nat) : Int) == 0) = false := by simp; omega
  clear h
  generalize picB W0 H0 + 1 = p at *
  go_enter Tryd.func28, Tryd.ntmps28
  go_wp2_with fail
  refine HE.out.mono ?_; rintro e w1 ⟨rfl, hb1⟩
  go_wp2
  go_ret3
  exact ⟨rfl, hb1⟩

set_option maxRecDepth 20000 in
theorem cleaned_bad1 (b0 o0 b1 o1 b2 o2 : Nat) (W0 H0 W1 H1 : Int) (full : Int) (f0 f1 : Nat → Int) (a0 a1 : Option Addr) (n0 n1 c0 c1 : Nat) (w : World) (h0 : PicAt w b0 o0 W0 H0 a0 n0 c0 f0) (h1 : PicAt w b1 o1 W1 H1 a1 n1 c1 f1) (g0 : picG W0 H0 n0 f0) (hn : n1 ≤ 9223372036854775807) (g1 : ¬ picG W1 H1 n1 f1) :
    Calls Tryd.prog 28 #[.pointer (some ⟨b0, o0, none⟩), .pointer (some ⟨b1, o1, none⟩), .pointer (some ⟨b2, o2, none⟩), .int .i64 full] w fun e w' => e = .returned (.tuple #[.slice none 0 0, .slice none 0 0, .int .i64 (picB W1 H1 + 1 : Nat)]) ∧ Below w.heap.size w w' := by
  have HE0 := Lib.hid (picE_ok b0 o0 W0 H0 f0 a0 n0 c0 w h0 g0)
  have HE1 := Lib.hid (fun W (h : PicAt W b1 o1 W1 H1 a1 n1 c1 f1) => picE_bad b1 o1 W1 H1 f1 a1 n1 c1 W h hn g1)
  have HP1 := Lib.hid h1
  have hp : 0 < picB W1 H1 + 1 := by omega
  have hb : (((picB W1 H1 + 1 : Nat) : Int) == 0) = false := by simp; omega
  clear h0 h1 g0
  generalize picB W1 H1 + 1 = p at *
  go_enter Tryd.func28, Tryd.ntmps28
  go_wp2_with fail
  refine HE0.out.mono ?_; rintro e w1 ⟨rfl, hb1⟩
  have HB1 := Lib.hid hb1
  clear hb1
  go_wp2_with fail
  refine (HE1.out _ (HP1.out.below HB1.out)).mono ?_; rintro e w2 ⟨rfl, hb2⟩
  have HB2 := Lib.hid (below_step HB1.out hb2)
  clear hb2
  go_wp2
  go_ret3
  exact ⟨rfl, HB2.out⟩

set_option maxRecDepth 20000 in
theorem cleaned_bad2 (b0 o0 b1 o1 b2 o2 : Nat) (W0 H0 W1 H1 W2 H2 : Int) (full : Int) (f0 f1 f2 : Nat → Int) (a0 a1 a2 : Option Addr) (n0 n1 n2 c0 c1 c2 : Nat) (w : World) (h : Pics w b0 o0 b1 o1 b2 o2 W0 H0 W1 H1 W2 H2 a0 a1 a2 n0 n1 n2 c0 c1 c2 f0 f1 f2) (g0 : picG W0 H0 n0 f0) (g1 : picG W1 H1 n1 f1) (hn : n2 ≤ 9223372036854775807) (g2 : ¬ picG W2 H2 n2 f2) :
    Calls Tryd.prog 28 #[.pointer (some ⟨b0, o0, none⟩), .pointer (some ⟨b1, o1, none⟩), .pointer (some ⟨b2, o2, none⟩), .int .i64 full] w fun e w' => e = .returned (.tuple #[.slice none 0 0, .slice none 0 0, .int .i64 (picB W2 H2 + 1 : Nat)]) ∧ Below w.heap.size w w' := by
  have HE0 := Lib.hid (picE_ok b0 o0 W0 H0 f0 a0 n0 c0 w h.1 g0)
  have HE1 := Lib.hid (fun W (h : PicAt W b1 o1 W1 H1 a1 n1 c1 f1) => picE_ok b1 o1 W1 H1 f1 a1 n1 c1 W h g1)
  have HE2 := Lib.hid (fun W (h : PicAt W b2 o2 W2 H2 a2 n2 c2 f2) => picE_bad b2 o2 W2 H2 f2 a2 n2 c2 W h hn g2)
  have HP := Lib.hid h
  have hp : 0 < picB W2 H2 + 1 := by omega
  have hb : (((picB W2 H2 + 1 : Nat) : Int) == 0) = false := by simp; omega
  clear h g0 g1
  generalize picB W2 H2 + 1 = p at *
  go_enter Tryd.func28, Tryd.ntmps28
  go_wp2_with fail
  refine HE0.out.mono ?_; rintro e w1 ⟨rfl, hb1⟩
  have HB1 := Lib.hid hb1
  clear hb1
  go_wp2_with fail
  refine (HE1.out _ (HP.out.below HB1.out).2.1).mono ?_; rintro e w2 ⟨rfl, hb2⟩
  have HB2 := Lib.hid (below_step HB1.out hb2)
  clear hb2
  go_wp2_with fail
  refine (HE2.out _ (HP.out.below HB2.out).2.2).mono ?_; rintro e w3 ⟨rfl, hb3⟩
  have HB3 := Lib.hid (below_step HB2.out hb3)
  clear hb3
  go_wp2
  go_ret3
  exact ⟨rfl, HB3.out⟩
end Go.Proofs.YtegnjiecninlaaaDoor
