/- sixties and the texts of angles: the reference. -/
import Derived.Test.YtpkifhmnibepiaaDoorWide
namespace Go.Proofs.YtpkifhmnibepiaaDoor
open Go.RowKit

def sixL (n : Nat) (f s t : List UInt8) : List UInt8 := f ++ wideL 2 (n / 60000000 % 60) ++ s ++ wideL 2 (n / 1000000 % 60) ++ [46] ++ wideL 6 (n % 1000000) ++ t

set_option maxHeartbeats 1000000 in
theorem sixties_any (n : Int) (f s t : List UInt8) (h0 : 0 ≤ n) (h1 : n < 9223372036854775808) (hf : f.length ≤ 10) (hs : s.length ≤ 10) (ht : t.length ≤ 10) (W : World) :
    Calls Tryd.prog 73 #[.int .i64 n, .string (bs f), .string (bs s), .string (bs t)] W fun e w' => ∃ d : ByteArray, e = .returned (.string d) ∧ d.size ≤ 50 ∧ Hid (d = bs (sixL n.toNat f s t)) ∧ Below W.heap.size W w' := by
  have HW := Lib.hid (fun x w a b c W => wide_int x w a b c W)
  have hf1 : (bs f).size ≤ 10 := by rw [bs_size]; exact hf
  have hs1 : (bs s).size ≤ 10 := by rw [bs_size]; exact hs
  have ht1 : (bs t).size ≤ 10 := by rw [bs_size]; exact ht
  have HR : Hid (∀ a b c : ByteArray, a = bs (wideL 2 (n / 1000000 / 60 % 60).toNat) → b = bs (wideL 2 (n / 1000000 % 60).toNat) → c = bs (wideL 6 (n % 1000000).toNat) → bs f ++ a ++ bs s ++ b ++ { data := #[46] } ++ c ++ bs t = bs (sixL n.toNat f s t)) := Lib.hid (fun a b c ha hb hc => by
    have e : ({ data := #[46] } : ByteArray) = bs [46] := rfl
    rw [ha, hb, hc, e, bs_append, bs_append, bs_append, bs_append, bs_append, bs_append, sixL, show (n / 1000000 / 60 % 60).toNat = n.toNat / 60000000 % 60 by omega, show (n / 1000000 % 60).toNat = n.toNat / 1000000 % 60 by omega, show (n % 1000000).toNat = n.toNat % 1000000 by omega])
  generalize bs f = F at *
  generalize bs s = S at *
  generalize bs t = T at *
  clear hf hs ht
  go_enter Tryd.func73, Tryd.ntmps73
  go_wp2_with fail
  refine (HW.out _ 2 (by omega) (by omega) (by omega) _).mono ?_; rintro e w1 ⟨a, rfl, ha, HA, hb1⟩
  have HB1 := Lib.hid hb1
  clear hb1
  go_wp2_with fail
  refine (HW.out _ 2 (by omega) (by omega) (by omega) _).mono ?_; rintro e w2 ⟨b, rfl, hb, HBB, hb2⟩
  have HB2 := Lib.hid (below_step HB1.out hb2)
  clear hb2
  go_wp2_with fail
  refine (HW.out _ 6 (by omega) (by omega) (by omega) _).mono ?_; rintro e w3 ⟨c, rfl, hc, HC, hb3⟩
  have HB3 := Lib.hid (below_step HB2.out hb3)
  clear hb3
  go_wp2
  go_ret
  exact ⟨_, rfl, by simp only [ByteArray.size_append]; have : (⟨#[46]⟩ : ByteArray).size = 1 := rfl; omega, Lib.hid (HR.out a b c HA.out HBB.out HC.out), HB3.out⟩
end Go.Proofs.YtpkifhmnibepiaaDoor
