/- ArcReads of package meridianlaw1: the law. -/
import Derived.Test.YtpkifhmnibepiaaDoorReadDeg
import Derived.Test.YtpkifhmnibepiaaDoorReadHou
import Derived.Test.YtpkifhmnibepiaaDoorRefO
import Derived.Test.YtpkifhmnibepiaaDoorFaultC
namespace Go.Proofs.YtpkifhmnibepiaaDoor
open Go.RowKit

theorem houOne : houO (seeF (runes ⟨#[49, 104]⟩).length (runeL ⟨#[49, 104]⟩)) (runes ⟨#[49, 104]⟩).length = .ok 54000000000 2 := by kernel_rfl
/-- What a reading leaves, as the law looks at it. -/
theorem ReadP.law {ad : Nat → Addr} {w w1 : World} {o : Out} {e : Ending} (h : ReadP w (ad 0) o e w1) : ∃ v, e = .returned (.tuple #[.int .i64 (refO o).1, v]) ∧ Below w.heap.size w w1 ∧
    ∀ w2, Sents w2 ad → Below w1.heap.size w1 w2 → Calls Tryd.prog 16 #[v, .agg #[.int .i64 (refO o).2.1, .int .i64 (refO o).2.2]] w2 fun e w' => e = .returned (.bool true) ∧ Below w2.heap.size w2 w' := by
  cases o with
  | ok n k =>
    obtain ⟨he, hb⟩ := h
    exact ⟨.nilIface, he, hb, fun w2 _ _ => faulted_nil w2 (-1)⟩
  | bad k =>
    obtain ⟨f, hf, he, h0, h1, hb⟩ := h
    refine ⟨faultV f, he, hb, fun w2 hs hb2 => ?_⟩
    have l := cell_lt h0
    exact faulted_fault ad f 0 k 1 (by decide) rfl w2 hs (by rw [hb2.cell (p := ⟨f, 0, none⟩) l]; exact h0) (by rw [hb2.cell (p := ⟨f, 1, none⟩) l]; exact h1)
theorem one_any (ad : Nat → Addr) (w : World) (h : Sents w ad) :
    Calls Tryd.prog 13 #[.string ⟨#[49, 104]⟩] w fun e w' => e = .returned (.tuple #[.int .i64 54000000000, .nilIface]) ∧ Below w.heap.size w w' := by
  refine (readHou_any ⟨#[49, 104]⟩ (by decide) (ad 0) w (h.1 0 (by decide))).mono ?_
  rw [houOne]
  rintro e w1 ⟨he, hb⟩
  exact ⟨he, hb⟩
set_option maxRecDepth 20000 in
set_option maxHeartbeats 4000000 in
theorem arcReads_any (ad : Nat → Addr) (s : ByteArray) (hs : s.size ≤ maxLen) {w : World} (hE : Sents w ad) :
    Calls Tryd.prog 3 #[.string s] w fun e w' => e = .returned (.bool true) ∧ Below w.heap.size w w' := by
  have HE := Lib.hid hE
  have H1 := Lib.hid (one_any ad w hE)
  clear hE
  by_cases c : 3000 < s.size
  · have hs' : (s.size : Int) ≤ maxLen := by exact_mod_cast hs
    go_enter Tryd.func3, Tryd.ntmps3
    go_wp2_with fail
    refine H1.out.mono ?_; rintro e w1 ⟨rfl, hb1⟩
    clear HE H1
    go_wp2
    go_ret
    exact ⟨rfl, hb1⟩
  · have hN : s.size ≤ 3000 := by omega
    have HD := Lib.hid (fun w1 (h : Sents w1 ad) => (readDeg_any s (by omega) (ad 0) w1 (h.1 0 (by decide))).mono fun e w' h => h.law)
    have HO := Lib.hid (fun w1 (h : Sents w1 ad) => (readHou_any s (by omega) (ad 0) w1 (h.1 0 (by decide))).mono fun e w' h => h.law)
    have RD := Lib.hid (fun w1 => degreesOf_any s (by omega) w1)
    have RO := Lib.hid (fun w1 => hoursOf_any s (by omega) w1)
    rw [← (runes_like s).degO] at RD
    rw [← (runes_like s).houO] at RO
    unfold RefP at RD RO
    generalize refO (degO (seeF (runes s).length (runeL s)) (runes s).length) = rd at *
    generalize refO (houO (seeF (runes s).length (runeL s)) (runes s).length) = rh at *
    clear hs
    go_enter Tryd.func3, Tryd.ntmps3
    go_wp2_with fail
    refine H1.out.mono ?_; rintro e w1 ⟨rfl, hb1⟩
    have E1 := Lib.hid (HE.out.below hb1)
    have B1 := Lib.hid hb1
    clear HE H1 hb1
    go_wp2_with fail
    refine (HD.out _ E1.out).mono ?_; rintro e w2 ⟨v, rfl, hb2, hf2⟩
    have B2 := Lib.hid (below_step B1.out hb2)
    have E2 := Lib.hid (E1.out.below hb2)
    have F2 := Lib.hid hf2
    clear E1 B1 hb2 HD hf2
    go_wp2_with fail
    refine (RD.out _).mono ?_; rintro e w3 ⟨rfl, hb3⟩
    have B3 := Lib.hid (below_step B2.out hb3)
    have E3 := Lib.hid (E2.out.below hb3)
    have F3 := Lib.hid (fun o => F2.out (w3.alloc o) (E3.out.below ((Below.refl _ _).alloc (Nat.le_refl _) o)) (hb3.alloc hb3.size o))
    have A3 := Lib.hid (fun o => below_step B3.out ((Below.refl _ _).alloc (Nat.le_refl _) o))
    have X3 := Lib.hid (fun o => E3.out.below ((Below.refl _ _).alloc (Nat.le_refl _) o))
    clear E2 B2 hb3 RD F2
    go_wp2_with fail
    refine (F3.out _).mono ?_; rintro e w4 ⟨rfl, hb4⟩
    have B4 := Lib.hid (below_step (A3.out _) hb4)
    have E4 := Lib.hid ((X3.out _).below hb4)
    clear E3 B3 hb4 F3 A3 X3
    go_wp2_with fail
    refine (HO.out _ E4.out).mono ?_; rintro e w5 ⟨v5, rfl, hb5, hf5⟩
    have B5 := Lib.hid (below_step B4.out hb5)
    have E5 := Lib.hid (E4.out.below hb5)
    have F5 := Lib.hid hf5
    clear E4 B4 hb5 HO hf5
    go_wp2_with fail
    refine (RO.out _).mono ?_; rintro e w6 ⟨rfl, hb6⟩
    have B6 := Lib.hid (below_step B5.out hb6)
    have E6 := Lib.hid (E5.out.below hb6)
    have F6 := Lib.hid (fun o => F5.out (w6.alloc o) (E6.out.below ((Below.refl _ _).alloc (Nat.le_refl _) o)) (hb6.alloc hb6.size o))
    have A6 := Lib.hid (fun o => below_step B6.out ((Below.refl _ _).alloc (Nat.le_refl _) o))
    have X6 := Lib.hid (fun o => E6.out.below ((Below.refl _ _).alloc (Nat.le_refl _) o))
    clear E5 B5 hb6 RO F5
    go_wp2_with fail
    refine (F6.out _).mono ?_; rintro e w7 ⟨rfl, hb7⟩
    have B7 := Lib.hid (below_step (A6.out _) hb7)
    clear E6 B6 hb7 F6 A6 X6
    go_wp2
    go_ret
    exact ⟨rfl, B7.out⟩
end Go.Proofs.YtpkifhmnibepiaaDoor
