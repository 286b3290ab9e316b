/- An angle's text in degrees: the program's and the reference's. -/
import Derived.Test.YtpkifhmnibepiaaDoorSixty
import Derived.Test.YtpkifhmnibepiaaDoorDigits
namespace Go.Proofs.YtpkifhmnibepiaaDoor
open Go.RowKit

def degL (neg : Bool) (n : Nat) : List UInt8 := (if neg then [45] else []) ++ Lib.decDigits (n / 3600000000) ++ sixL n [194, 176] [226, 128, 178] [226, 128, 179]
theorem degL_cat (neg : Bool) (n : Nat) (g d1 d2 d3 d4 : ByteArray) (hg : g = bs (if neg then [45] else [])) (h1 : d1 = bs (padL 1 (n / 3600000000))) (h2 : d2 = bs (padL 2 (n / 60000000 % 60))) (h3 : d3 = bs (padL 2 (n / 1000000 % 60))) (h4 : d4 = bs (padL 6 (n % 1000000))) :
    g ++ d1 ++ { data := #[194, 176] } ++ d2 ++ { data := #[226, 128, 178] } ++ d3 ++ { data := #[46] } ++ d4 ++ { data := #[226, 128, 179] } = bs (degL neg n) := by
  have e1 : ({ data := #[194, 176] } : ByteArray) = bs [194, 176] := rfl
  have e2 : ({ data := #[226, 128, 178] } : ByteArray) = bs [226, 128, 178] := rfl
  have e3 : ({ data := #[46] } : ByteArray) = bs [46] := rfl
  have e4 : ({ data := #[226, 128, 179] } : ByteArray) = bs [226, 128, 179] := rfl
  rw [hg, h1, h2, h3, h4, e1, e2, e3, e4, padL_one, padL_wide 1 _ (by omega), padL_wide 1 _ (by omega), padL_wide 5 _ (by omega)]
  simp only [bs_append, degL, sixL, List.append_assoc]

set_option maxHeartbeats 2000000 in
theorem degrees_pos (n : Nat) (hn : n ≤ 1152921504606846976) (W : World) (ht : Pow10 W) :
    Calls Tryd.prog 19 #[.int .i64 n] W fun e w' => ∃ d : ByteArray, e = .returned (.string d) ∧ Hid (d = bs (degL false n)) ∧ Below W.heap.size W w' := by
  have HD := Lib.hid (fun x w a b c W t => arcDigits_int x w a b c W t)
  have HT := Lib.hid ht
  have HR := Lib.hid (fun d1 d2 d3 d4 a b c d => degL_cat false n { data := #[] } d1 d2 d3 d4 rfl a b c d)
  clear ht
  go_enter Tryd.func19, Tryd.ntmps19
  go_wp2_with fail
  refine (HD.out _ 1 (by omega) (by omega) (by omega) _ HT.out).mono ?_; rintro e w1 ⟨d1, rfl, hd1, H1, hb1⟩
  have HB1 := Lib.hid hb1
  clear hb1
  go_wp2_with fail
  refine (HD.out _ 2 (by omega) (by omega) (by omega) _ (HT.out.below HB1.out)).mono ?_; rintro e w2 ⟨d2, rfl, hd2, H2, hb2⟩
  have HB2 := Lib.hid (below_step HB1.out hb2)
  clear hb2
  go_wp2_with fail
  refine (HD.out _ 2 (by omega) (by omega) (by omega) _ (HT.out.below HB2.out)).mono ?_; rintro e w3 ⟨d3, rfl, hd3, H3, hb3⟩
  have HB3 := Lib.hid (below_step HB2.out hb3)
  clear hb3
  go_wp2_with fail
  refine (HD.out _ 6 (by omega) (by omega) (by omega) _ (HT.out.below HB3.out)).mono ?_; rintro e w4 ⟨d4, rfl, hd4, H4, hb4⟩
  have HB4 := Lib.hid (below_step HB3.out hb4)
  clear hb4
  go_wp2
  go_ret
  exact ⟨_, rfl, Lib.hid (HR.out d1 d2 d3 d4 (by rw [H1.out]; congr) (by rw [H2.out]; congr) (by rw [H3.out]; congr) (by rw [H4.out]; congr)), HB4.out⟩
set_option maxHeartbeats 2000000 in
theorem degrees_neg (n : Nat) (h1 : 1 ≤ n) (hn : n ≤ 1152921504606846976) (W : World) (ht : Pow10 W) :
    Calls Tryd.prog 19 #[.int .i64 (-(n : Int))] W fun e w' => ∃ d : ByteArray, e = .returned (.string d) ∧ Hid (d = bs (degL true n)) ∧ Below W.heap.size W w' := by
  have HD := Lib.hid (fun x w a b c W t => arcDigits_int x w a b c W t)
  have HT := Lib.hid ht
  have HR := Lib.hid (fun d1 d2 d3 d4 a b c d => degL_cat true n { data := #[45] } d1 d2 d3 d4 rfl a b c d)
  have hwr : IntKind.u64.wrap (-IntKind.u64.wrap (-(n : Int))) = (n : Int) := by rw [IntKind.wrap_u64, IntKind.wrap_u64]; omega
  clear ht
  go_enter Tryd.func19, Tryd.ntmps19
  go_wp2_with fail
  refine (HD.out _ 1 (by omega) (by omega) (by omega) _ HT.out).mono ?_; rintro e w1 ⟨d1, rfl, hd1, H1, hb1⟩
  have HB1 := Lib.hid hb1
  clear hb1
  go_wp2_with fail
  refine (HD.out _ 2 (by omega) (by omega) (by omega) _ (HT.out.below HB1.out)).mono ?_; rintro e w2 ⟨d2, rfl, hd2, H2, hb2⟩
  have HB2 := Lib.hid (below_step HB1.out hb2)
  clear hb2
  go_wp2_with fail
  refine (HD.out _ 2 (by omega) (by omega) (by omega) _ (HT.out.below HB2.out)).mono ?_; rintro e w3 ⟨d3, rfl, hd3, H3, hb3⟩
  have HB3 := Lib.hid (below_step HB2.out hb3)
  clear hb3
  go_wp2_with fail
  refine (HD.out _ 6 (by omega) (by omega) (by omega) _ (HT.out.below HB3.out)).mono ?_; rintro e w4 ⟨d4, rfl, hd4, H4, hb4⟩
  have HB4 := Lib.hid (below_step HB3.out hb4)
  clear hb4
  go_wp2
  go_ret
  exact ⟨_, rfl, Lib.hid (HR.out d1 d2 d3 d4 (by rw [H1.out]; congr) (by rw [H2.out]; congr) (by rw [H3.out]; congr) (by rw [H4.out]; congr)), HB4.out⟩
set_option maxHeartbeats 1000000 in
theorem degreesText_pos (n : Nat) (hn : n ≤ 1152921504606846976) (W : World) :
    Calls Tryd.prog 20 #[.int .i64 n] W fun e w' => ∃ d : ByteArray, e = .returned (.string d) ∧ Hid (d = bs (degL false n)) ∧ Below W.heap.size W w' := by
  have HD := Lib.hid (fun x a b W => decimal_int x a b W)
  have HS := Lib.hid (fun x a b W => sixties_any x [194, 176] [226, 128, 178] [226, 128, 179] a b (by decide) (by decide) (by decide) W)
  have HR : Hid (∀ d1 d2, d1 = bs (Lib.decDigits ((n : Int) / 3600000000).toNat) → d2 = bs (sixL (n : Int).toNat [194, 176] [226, 128, 178] [226, 128, 179]) → ({ data := #[] } : ByteArray) ++ d1 ++ d2 = bs (degL false n)) := Lib.hid (fun d1 d2 h1 h2 => by
    have e : ({ data := #[] } : ByteArray) = bs [] := rfl
    rw [h1, h2, e, bs_append, bs_append, degL, show ((n : Int) / 3600000000).toNat = n / 3600000000 by omega, show (n : Int).toNat = n by omega]; rfl)
  go_enter Tryd.func20, Tryd.ntmps20
  go_wp2_with fail
  refine (HD.out _ (by omega) (by omega) _).mono ?_; rintro e w1 ⟨d1, rfl, hd1, H1, hb1⟩
  have HB1 := Lib.hid hb1
  have hd1 : d1.size ≤ 1152921504606846977 := by omega
  clear hb1
  go_wp2_with fail
  refine (HS.out _ (by omega) (by omega) _).mono ?_; rintro e w2 ⟨d2, rfl, hd2, H2, hb2⟩
  have HB2 := Lib.hid (below_step HB1.out hb2)
  clear hb2
  go_wp2
  go_ret
  exact ⟨_, rfl, Lib.hid (HR.out d1 d2 H1.out H2.out), HB2.out⟩
set_option maxHeartbeats 1000000 in
theorem degreesText_neg (n : Nat) (h1 : 1 ≤ n) (hn : n ≤ 1152921504606846976) (W : World) :
    Calls Tryd.prog 20 #[.int .i64 (-(n : Int))] W fun e w' => ∃ d : ByteArray, e = .returned (.string d) ∧ Hid (d = bs (degL true n)) ∧ Below W.heap.size W w' := by
  have HD := Lib.hid (fun x a b W => decimal_int x a b W)
  have HS := Lib.hid (fun x a b W => sixties_any x [194, 176] [226, 128, 178] [226, 128, 179] a b (by decide) (by decide) (by decide) W)
  have HR : Hid (∀ d1 d2, d1 = bs (Lib.decDigits ((n : Int) / 3600000000).toNat) → d2 = bs (sixL (n : Int).toNat [194, 176] [226, 128, 178] [226, 128, 179]) → ({ data := #[45] } : ByteArray) ++ d1 ++ d2 = bs (degL true n)) := Lib.hid (fun d1 d2 h1 h2 => by
    have e : ({ data := #[45] } : ByteArray) = bs [45] := rfl
    rw [h1, h2, e, bs_append, bs_append, degL, show ((n : Int) / 3600000000).toNat = n / 3600000000 by omega, show (n : Int).toNat = n by omega]; rfl)
  go_enter Tryd.func20, Tryd.ntmps20
  go_wp2_with fail
  refine (HD.out _ (by omega) (by omega) _).mono ?_; rintro e w1 ⟨d1, rfl, hd1, H1, hb1⟩
  have HB1 := Lib.hid hb1
  have hd1 : d1.size ≤ 1152921504606846977 := by omega
  clear hb1
  go_wp2_with fail
  refine (HS.out _ (by omega) (by omega) _).mono ?_; rintro e w2 ⟨d2, rfl, hd2, H2, hb2⟩
  have HB2 := Lib.hid (below_step HB1.out hb2)
  clear hb2
  go_wp2
  go_ret
  exact ⟨_, rfl, Lib.hid (HR.out d1 d2 H1.out H2.out), HB2.out⟩
end Go.Proofs.YtpkifhmnibepiaaDoor
