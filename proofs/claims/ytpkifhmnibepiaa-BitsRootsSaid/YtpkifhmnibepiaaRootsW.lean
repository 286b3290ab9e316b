/- The law BitsRoots: its walk. -/
import Derived.Test.YtpkifhmnibepiaaRootsL
namespace Go.Proofs.Ytpkifhmnibepiaa
open Go.RowKit Ieee

set_option maxHeartbeats 1000000 in
theorem roots_any (x a b c : Nat) (w : World) :
    Calls Try.prog 3 #[.float .f64 x, .agg #[.float .f64 a, .float .f64 b, .float .f64 c]] w fun e w' => e = .returned (.bool true) ∧ Below w.heap.size w w' := by
  have o4 : FloatKind.f64.format.order 4611686018427387904 4611686018427387904 = some .eq := order_not (by decide +kernel)
  have H4 := Lib.hid (fun W => root_four W)
  have HR := Lib.hid (fun W => root_soft x W)
  have HQ := Lib.hid (fun W => sqrt_soft0 x W)
  have HL := Lib.hid (fun W => length_any a b c W)
  have HO := Lib.hid (fun W => lengthOf_any a b c W)
  have HS := Lib.hid (fun o r s hr hs W => same_any o r s hr hs W)
  have HC := Lib.hid (fun (W : World) hb => vec_cells (w := w) (w' := W) (x := a) (y := b) (z := c) (T := 24) hb)
  go_enter Try.func3, Try.ntmps3
  go_wp2_with fail
  refine (H4.out _).mono ?_; rintro e w1 ⟨rfl, hb1⟩
  have HB1 := Lib.hid hb1
  clear hb1
  go_wp2_with fail
  refine (HR.out _).mono ?_; rintro e w2 ⟨r2, rfl, h2, hb2⟩
  have HB2 := Lib.hid (below_step HB1.out hb2)
  have K2 := Lib.hid h2
  clear hb2 h2
  go_wp2_with fail
  refine (HQ.out _).mono ?_; rintro e w3 ⟨r3, rfl, h3, hb3⟩
  have HB3 := Lib.hid (below_step HB2.out hb3)
  have K3 := Lib.hid h3
  clear hb3 h3
  go_wp2_with fail
  refine (HS.out _ r2 r3 K2.out K3.out _).mono ?_; rintro e w4 ⟨rfl, hb4⟩
  have HB4 := Lib.hid (below_step HB3.out hb4)
  clear hb4
  go_wp2
  go_region_held3 (fun w' => w'.cell? ⟨w.heap.size, 0, none⟩ = some (.float .f64 a) ∧ w'.cell? ⟨w.heap.size, 1, none⟩ = some (.float .f64 b) ∧ w'.cell? ⟨w.heap.size, 2, none⟩ = some (.float .f64 c))
    (first | (exact HC.out _ HB4.out) | (exact HC.out _ HB4.out.drew) | (exact HC.out _ (below_step HB4.out.drew hb5)) | (exact HC.out _ (below_step (below_step HB4.out.drew hb5) hb6)) | (exact HC.out _ (below_step (below_step (below_step HB4.out.drew hb5) hb6) hb7)) | assumption)
    (first | (go_at_call 8; refine (HL.out _).mono ?_; rintro e w5 ⟨r5, rfl, h5, hb5⟩) | (go_at_call 9; refine (HO.out _).mono ?_; rintro e w6 ⟨r6, rfl, h6, hb6⟩) | (go_at_call 6; refine (HS.out _ r5 r6 h5 h6 _).mono ?_; rintro e w7 ⟨rfl, hb7⟩))
  go_wp2
  go_ret
  exact ⟨rfl, below_step ((Below.refl _ _).alloc (Nat.le_refl _) _) (below_step (below_step (below_step HB4.out.drew hb5) hb6) hb7)⟩
end Go.Proofs.Ytpkifhmnibepiaa
