/- BitsTexts of package meridianlaw1: the law. -/
import Derived.Test.YtpkifhmnibepiaaDoorTextB
import Derived.Test.YtpkifhmnibepiaaDoorReadBR
import Derived.Test.YtpkifhmnibepiaaDoorFaultC
namespace Go.Proofs.YtpkifhmnibepiaaDoor
open Go.RowKit

theorem ReadBP.law {ad : Nat → Addr} {w w1 : World} {o : Out} {e : Ending} (h : ReadBP w (ad 0) o e w1) : ∃ v, e = .returned (.tuple #[.float .f64 (refB o).1, v]) ∧ Below w.heap.size w w1 ∧
    ∀ w2, Sents w2 ad → Below w1.heap.size w1 w2 → Calls Tryd.prog 16 #[v, .agg #[.int .i64 (refB o).2.1, .int .i64 (refB o).2.2]] w2 fun e w' => e = .returned (.bool true) ∧ Below w2.heap.size w2 w' := by
  cases o with
  | ok n k =>
    obtain ⟨he, hb⟩ := h
    exact ⟨.nilIface, he, hb, fun w2 _ _ => faulted_nil w2 (-1)⟩
  | bad k =>
    obtain ⟨f, hf, he, h0, h1, hb⟩ := h
    refine ⟨faultV f, he, hb, fun w2 hs hb2 => ?_⟩
    have l := cell_lt h0
    exact faulted_fault ad f 0 k 1 (by decide) rfl w2 hs (by rw [hb2.cell (p := ⟨f, 0, none⟩) l]; exact h0) (by rw [hb2.cell (p := ⟨f, 1, none⟩) l]; exact h1)
def zV (x : Nat) : Nat := if nanB x then 9221120237041090560 else x
theorem nan_nan : nanB 9221120237041090560 = true := by decide +kernel
theorem nan_back : rdF nanT 16 0 0 = .ok 9221120237041090560 16 := by kernel_rfl
theorem hex_back (x : Nat) (hx : x < 18446744073709551616) : rdF (bs (hexL 16 x)) 16 0 0 = .ok (x : Int) 16 := by
  have e := rdF_hex 16 [] x 0 rfl
  have e2 : 0 * 16 ^ 16 + x % 16 ^ 16 = x := by omega
  rw [e2] at e
  rw [List.nil_append] at e
  exact e
theorem txt_back (x : Nat) (hx : x < 18446744073709551616) : rdF (txtV x) 16 0 0 = .ok (zV x : Nat) 16 := by
  unfold txtV zV
  by_cases h : nanB x = true
  · rw [if_pos h, if_pos h, nan_back]
    rfl
  · rw [if_neg h, if_neg h]
    exact hex_back x hx
theorem same_back (x : Nat) : sbB (zV x) x = true := by
  unfold sbB zV
  cases h : nanB x with
  | true => simp [nan_nan]
  | false => simp [h]
theorem same_self (x : Nat) : sbB x x = true := by
  unfold sbB
  cases h : nanB x <;> simp
theorem txt_one : txtV 4607182418800017408 = { data := #[51, 102, 102, 48, 48, 48, 48, 48, 48, 48, 48, 48, 48, 48, 48, 48] } := by decide +kernel
theorem txt_size (x : Nat) : (txtV x).size = 16 := by
  unfold txtV
  cases h : nanB x with
  | true => rfl
  | false => exact (bs_size _).trans (hexL_length _ _)
set_option maxRecDepth 20000 in
set_option maxHeartbeats 8000000 in
theorem bitsTexts_any (ad : Nat → Addr) (x : Nat) (hxw : (Lit.float .f64 x).wf = true) (s : ByteArray) (hs : s.size ≤ maxLen) {w : World} (hE : Sents w ad) (hD : DB w) :
    Calls Tryd.prog 5 #[.float .f64 x, .string s] w fun e w' => e = .returned (.bool true) ∧ Below w.heap.size w w' := by
  have hx : x < 18446744073709551616 := by simpa [Lit.wf] using hxw
  have T1 := Lib.hid (fun W h => text_any 4607182418800017408 (by decide) W h)
  rw [txt_one] at T1
  have HE := Lib.hid hE
  have HD := Lib.hid hD
  clear hE hD
  by_cases c : 3000 < s.size
  · have hs' : (s.size : Int) ≤ maxLen := by exact_mod_cast hs
    go_enter Tryd.func5, Tryd.ntmps5
    go_wp2_with fail
    refine (T1.out _ HD.out).mono ?_; rintro e w1 ⟨rfl, hb1⟩
    clear HE HD T1
    go_wp2
    go_ret
    exact ⟨rfl, hb1⟩
  · have hN : s.size ≤ 3000 := by omega
    have TX := Lib.hid (fun W h => text_any x hx W h)
    have TR := Lib.hid (fun W => bitsText_any x hx W)
    have RB := Lib.hid (fun w1 (h : Sents w1 ad) => (readB_any s (by omega) (ad 0) w1 (h.1 0 (by decide))).mono fun e w' h => h.law)
    have RR := Lib.hid (fun w1 => readBits_any s (by omega) w1)
    have RZ : Hid (∀ w1, Sents w1 ad → Calls Tryd.prog 23 #[.string (txtV x)] w1 fun e w' => e = .returned (.tuple #[.float .f64 (zV x), .nilIface]) ∧ Below w1.heap.size w1 w') := Lib.hid (fun w1 h => (readB_any (txtV x) (by rw [txt_size]; omega) (ad 0) w1 (h.1 0 (by decide))).mono (by
      rw [txt_back x hx]
      rintro e w2 ⟨he, hb⟩
      exact ⟨he, hb⟩))
    unfold RefBP at RR
    generalize refB (rdF s 16 0 0) = r at *
    have S1 := Lib.hid (fun W => sameR_any r.1 r.1 W)
    rw [same_self] at S1
    have S2 := Lib.hid (fun W => sameR_any (zV x) x W)
    rw [same_back] at S2
    have S3 := Lib.hid (fun W => sameB_any x r.1 W)
    have S4 := Lib.hid (fun W => sameR_any x r.1 W)
    generalize sbB x r.1 = sb at *
    generalize zV x = z at *
    have hts := txt_size x
    generalize txtV x = u at *
    clear hs hxw
    go_enter Tryd.func5, Tryd.ntmps5
    go_wp2_with fail
    refine (T1.out _ HD.out).mono ?_; rintro e w1 ⟨rfl, hb1⟩
    have B1 := Lib.hid hb1
    clear T1 hb1
    go_wp2_with fail
    refine (TX.out _ (HD.out.below B1.out)).mono ?_; rintro e w2 ⟨rfl, hb2⟩
    have B2 := Lib.hid (below_step B1.out hb2)
    clear TX B1 hb2
    go_wp2_with fail
    refine (RB.out _ (HE.out.below B2.out)).mono ?_; rintro e w3 ⟨v, rfl, hb3, hf3⟩
    have B3 := Lib.hid (below_step B2.out hb3)
    have F3 := Lib.hid hf3
    clear RB B2 hb3 hf3
    go_wp2_with fail
    refine (RR.out _).mono ?_; rintro e w4 ⟨rfl, hb4⟩
    have B4 := Lib.hid (below_step B3.out hb4)
    have F4 := Lib.hid (fun o => F3.out (w4.alloc o) (HE.out.below (B4.out.alloc B4.out.size o)) (hb4.alloc hb4.size o))
    have A4 := Lib.hid (fun o => B4.out.alloc B4.out.size o)
    clear RR B3 hb4 F3
    go_wp2_with fail
    refine (F4.out _).mono ?_; rintro e w5 ⟨rfl, hb5⟩
    have B5 := Lib.hid (below_step (A4.out _) hb5)
    clear F4 A4 B4 hb5
    go_wp2_with fail
    refine (RZ.out _ (HE.out.below B5.out)).mono ?_; rintro e w6 ⟨rfl, hb6⟩
    have B6 := Lib.hid (below_step B5.out hb6)
    clear RZ B5 hb6
    go_wp2_with fail
    refine (S1.out _).mono ?_; rintro e w7 ⟨rfl, hb7⟩
    have B7 := Lib.hid (below_step B6.out hb7)
    clear S1 B6 hb7
    go_wp2_with fail
    refine (S2.out _).mono ?_; rintro e w8 ⟨rfl, hb8⟩
    have B8 := Lib.hid (below_step B7.out hb8)
    clear S2 B7 hb8
    go_wp2_with fail
    refine (S3.out _).mono ?_; rintro e w9 ⟨rfl, hb9⟩
    have B9 := Lib.hid (below_step B8.out hb9)
    clear S3 B8 hb9
    go_wp2_with fail
    refine (TR.out _).mono ?_; rintro e w10 ⟨rfl, hb10⟩
    have B10 := Lib.hid (below_step B9.out hb10)
    clear TR B9 hb10
    go_wp2_with fail
    refine (S4.out _).mono ?_; rintro e w11 ⟨rfl, hb11⟩
    have B11 := Lib.hid (below_step B10.out hb11)
    clear S4 B10 hb11 HE HD
    go_wp2
    go_ret
    exact ⟨rfl, B11.out⟩
end Go.Proofs.YtpkifhmnibepiaaDoor
