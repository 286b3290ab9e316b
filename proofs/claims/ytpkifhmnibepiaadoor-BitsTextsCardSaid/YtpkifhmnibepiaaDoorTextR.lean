/- BitsText of package meridianref1: its walk. -/
import Derived.Test.YtpkifhmnibepiaaDoorHexP
import Derived.Test.YtpkifhmnibepiaaDoorTxtP
namespace Go.Proofs.YtpkifhmnibepiaaDoor
open Go.RowKit

def digs : ByteArray := { data := #[48, 49, 50, 51, 52, 53, 54, 55, 56, 57, 97, 98, 99, 100, 101, 102] }
theorem digs_at (k : Nat) (hk : k < 16) : digs.extract k (k + 1) = bs [UInt8.ofNat (hexC k)] := by
  have : ∀ x : Fin 16, digs.extract x.1 (x.1 + 1) = bs [UInt8.ofNat (hexC x.1)] := by decide +kernel
  exact this ⟨k, hk⟩
theorem digs_slice (m : Nat) (W : World) : (Instr.slice 9 (.string digs) (some (.int .i64 ((m : Int) % 16))) (some (.int .i64 ((m : Int) % 16 + 1))) none).run Tryd.prog W = .ok (.string (bs [UInt8.ofNat (hexC (m % 16))])) W := by
  have hz : digs.size = 16 := rfl
  have h0 : (0 : Int) ≤ (m : Int) % 16 := by omega
  have h1 : (m : Int) % 16 < 16 := by omega
  have e1 : ((m : Int) % 16).toNat = m % 16 := by omega
  have e2 : ((m : Int) % 16 + 1).toNat = m % 16 + 1 := by omega
  have hd := digs_at (m % 16) (by omega)
  rw [← e1] at hd
  generalize (m : Int) % 16 = k at *
  have h := @run_slice_string Tryd.prog W 9 digs .i64 .i64 k (k + 1) Tryd.underlying9 h0 (by omega) (by omega)
  rw [e2, e1] at h
  rw [h, ← e1, ← hd, e1]
set_option maxRecDepth 20000 in
set_option maxHeartbeats 4000000 in
theorem bitsText_num (x : Nat) (hx : x < 18446744073709551616) (ho : FloatKind.f64.format.order x x = some .eq) (w : World) :
    Calls Tryd.prog 27 #[.float .f64 x] w fun e w' => ∃ d, e = .returned (.string d) ∧ Hid (d = bs (hexL 16 x)) ∧ Below w.heap.size w w' := by
  have h32 := @run_callFunc_extern Tryd.prog 77 _ Extern.MathFloatBits.float64bits Tryd.func77 (by kernel_rfl) (by kernel_rfl) (by kernel_rfl) (by kernel_rfl)
  have h33 : ∀ W : World, (Extern.MathFloatBits.float64bits #[.float .f64 x]).run Tryd.prog W = .ok (.int .u64 x) W := fun _ => rfl
  go_enter Tryd.func27, Tryd.ntmps27
  go_wp2
  go_loopw [3, 5, 6] (fun n o v wr => ∃ (i m : Nat) (d : ByteArray), i ≤ 16 ∧ m < 18446744073709551616 ∧ n = .int .u64 m ∧ o = .string d ∧ v = .int .i64 i ∧ d.size = i ∧ Hid (m = x / 16 ^ i) ∧ Hid (d = bs (hexL i x)) ∧ Below w.heap.size w wr) (fun _ _ v _ => 16 - (intOf v).toNat)
  case atStart => exact ⟨0, x, .empty, by omega, by omega, rfl, rfl, rfl, rfl, Lib.hid (by simp), Lib.hid rfl, Below.refl _ _⟩
  case round =>
    obtain ⟨i, m, d, hi, hm, rfl, rfl, rfl, hd, HM, HD, hb⟩ := hrel
    have HB := Lib.hid hb
    clear hb
    by_cases c : i = 16
    · subst c
      go_wp2
      go_ret
      exact ⟨_, rfl, HD, HB.out⟩
    · have hi' : i < 16 := by omega
      clear c
      have hsl := fun W => digs_slice m W
      have hbs : (bs [UInt8.ofNat (hexC (m % 16))]).size = 1 := rfl
      have HC : Hid (bs [UInt8.ofNat (hexC (m % 16))] ++ bs (hexL i x) = bs (hexL (i + 1) x)) := Lib.hid (by
        rw [bs_append, hexL_cons, ← HM.out]; rfl)
      have HN : Hid (m / 16 = x / 16 ^ (i + 1)) := Lib.hid (by
        rw [HM.out, Nat.pow_succ, Nat.div_div_eq_div_mul])
      generalize bs [UInt8.ofNat (hexC (m % 16))] = B at *
      unfold digs at hsl
      go_wp2
      go_roundw
      case rel => exact ⟨i + 1, m / 16, B ++ d, by omega, by omega, by go_num, rfl, by go_num, by rw [ByteArray.size_append]; omega, HN, Lib.hid (by rw [HD.out]; exact HC.out), HB.out⟩
      case measure => simp [intOf]; omega
end Go.Proofs.YtpkifhmnibepiaaDoor
