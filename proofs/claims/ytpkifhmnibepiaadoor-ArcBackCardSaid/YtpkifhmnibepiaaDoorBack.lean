/- ArcBack of package meridianlaw1: the law. -/
import Derived.Test.YtpkifhmnibepiaaDoorBackP
import Derived.Test.YtpkifhmnibepiaaDoorHoursR
import Derived.Test.YtpkifhmnibepiaaDoorReadDeg
import Derived.Test.YtpkifhmnibepiaaDoorReadHou
namespace Go.Proofs.YtpkifhmnibepiaaDoor
open Go.RowKit

def HasE (ad : Addr) (w : World) : Prop := w.cell? ⟨0, 0, none⟩ = some (.iface 258 (.pointer (some ad)))
theorem HasE.below {ad : Addr} {w w1 : World} (h : HasE ad w) (hb : Below w.heap.size w w1) : HasE ad w1 := by
  unfold HasE at h ⊢
  rw [hb.cell (p := ⟨0, 0, none⟩) (cell_lt h)]; exact h
theorem deg_len (neg : Bool) (n : Nat) (hn : n < 3600000000000000) : (bs (degL neg n)).size ≤ 1000000 := by
  obtain ⟨k, k1, k6, hq, hd⟩ := digits_wide 6 (n / 3600000000) (by omega) (by omega)
  rw [bs_size]
  unfold degL sixL
  rw [hd]
  cases neg <;> simp [wideL_length] <;> omega
theorem hou_len (n : Nat) : (bs (houL n)).size ≤ 1000000 := by
  rw [bs_size]
  unfold houL sixL
  simp [wideL_length]
/-- A text that is read as a. -/
def DegT (a : Int) (d : ByteArray) : Prop := d.size ≤ 1000000 ∧ ∃ j, degO (seeF (runes d).length (runeL d)) (runes d).length = .ok a j
def HouT (a : Int) (d : ByteArray) : Prop := d.size ≤ 1000000 ∧ ∃ j, houO (seeF (runes d).length (runeL d)) (runes d).length = .ok a j
theorem degT_any (a : Int) (h1 : -3599999999000000 ≤ a) (h2 : a ≤ 3599999999000000) (W : World) (ht : Pow10 W) :
    Calls Tryd.prog 19 #[.int .i64 a] W fun e w' => ∃ d : ByteArray, e = .returned (.string d) ∧ Hid (DegT a d) ∧ Below W.heap.size W w' := by
  by_cases c : a < 0
  · obtain ⟨n, rfl⟩ : ∃ n : Nat, a = -(n : Int) := ⟨a.natAbs, by omega⟩
    refine (degrees_neg n (by omega) (by omega) W ht).mono ?_
    rintro e w1 ⟨d, he, hd, hb⟩
    have ed := hd.out
    subst ed
    exact ⟨_, he, Lib.hid ⟨deg_len true n (by omega), deg_back true n (by omega)⟩, hb⟩
  · obtain ⟨n, rfl⟩ : ∃ n : Nat, a = (n : Int) := ⟨a.toNat, by omega⟩
    refine (degrees_pos n (by omega) W ht).mono ?_
    rintro e w1 ⟨d, he, hd, hb⟩
    have ed := hd.out
    subst ed
    exact ⟨_, he, Lib.hid ⟨deg_len false n (by omega), deg_back false n (by omega)⟩, hb⟩
theorem houT_any (a : Int) (ha : In64 a) (W : World) (ht : Pow10 W) :
    Calls Tryd.prog 18 #[.int .i64 a] W fun e w' => ∃ d : ByteArray, e = .returned (.string d) ∧ Hid (HouT (houN a * 15) d) ∧ Below W.heap.size W w' := by
  have hb := houN_bd a
  refine (hours_any a ha W ht).mono ?_
  rintro e w1 ⟨d, he, hd, hbel⟩
  have ed := hd.out
  subst ed
  obtain ⟨j, hj⟩ := hou_back (houN a).toNat (by omega)
  rw [show (((houN a).toNat : Nat) : Int) = houN a by omega] at hj
  exact ⟨_, he, Lib.hid ⟨hou_len _, j, hj⟩, hbel⟩
theorem degR_any {a : Int} {d : ByteArray} (h : Hid (DegT a d)) (ad : Addr) (w : World) (hE : HasE ad w) :
    Calls Tryd.prog 14 #[.string d] w fun e w' => e = .returned (.tuple #[.int .i64 a, .nilIface]) ∧ Below w.heap.size w w' := by
  obtain ⟨hs, j, hj⟩ := h.out
  refine (readDeg_any d hs ad w hE).mono ?_
  rw [hj]
  rintro e w1 ⟨he, hb⟩
  exact ⟨he, hb⟩
theorem houR_any {a : Int} {d : ByteArray} (h : Hid (HouT a d)) (ad : Addr) (w : World) (hE : HasE ad w) :
    Calls Tryd.prog 13 #[.string d] w fun e w' => e = .returned (.tuple #[.int .i64 a, .nilIface]) ∧ Below w.heap.size w w' := by
  obtain ⟨hs, j, hj⟩ := h.out
  refine (readHou_any d hs ad w hE).mono ?_
  rw [hj]
  rintro e w1 ⟨he, hb⟩
  exact ⟨he, hb⟩
set_option maxHeartbeats 4000000 in
theorem arcBack_any (ad : Addr) (a : Int) (ha : In64 a) {W : World} (hE : HasE ad W) (ht : Pow10 W) :
    Calls Tryd.prog 6 #[.int .i64 a] W fun e w' => e = .returned (.bool true) ∧ Below W.heap.size W w' := by
  have D1 := Lib.hid (degT_any (-1) (by omega) (by omega))
  have HE := Lib.hid hE
  have HT := Lib.hid ht
  have DR := Lib.hid (fun (x : Int) (d : ByteArray) (h : Hid (DegT x d)) w hE => degR_any h ad w hE)
  have HR := Lib.hid (fun (x : Int) (d : ByteArray) (h : Hid (HouT x d)) w hE => houR_any h ad w hE)
  clear hE ht
  by_cases c : -3599999999000000 ≤ a ∧ a ≤ 3599999999000000
  · obtain ⟨h1, h2⟩ := c
    have DA := Lib.hid (degT_any a h1 h2)
    have HA := Lib.hid (houT_any a ha)
    have hb := houN_bd a
    have hx := hou_near a
    have hy : In64 (houN a * 15) := by unfold In64; omega
    have AP := Lib.hid (fun w => apart_any (houN a * 15) a w hy ha)
    generalize houN a * 15 = y at *
    generalize apt y a = z at *
    clear hb hy ha
    go_enter Tryd.func6, Tryd.ntmps6
    go_wp2_with fail
    refine (D1.out _ HT.out).mono ?_; rintro e w1 ⟨d1, rfl, T1, hb1⟩
    have B1 := Lib.hid hb1
    clear hb1 D1
    go_wp2_with fail
    refine (DR.out _ _ T1 _ (HE.out.below B1.out)).mono ?_; rintro e w2 ⟨rfl, hb2⟩
    have B2 := Lib.hid (below_step B1.out hb2)
    clear hb2 B1 T1
    go_wp2_with fail
    refine (DA.out _ (HT.out.below B2.out)).mono ?_; rintro e w3 ⟨d2, rfl, T2, hb3⟩
    have B3 := Lib.hid (below_step B2.out hb3)
    clear hb3 B2 DA
    go_wp2_with fail
    refine (DR.out _ _ T2 _ (HE.out.below B3.out)).mono ?_; rintro e w4 ⟨rfl, hb4⟩
    have B4 := Lib.hid (below_step B3.out hb4)
    clear hb4 B3 T2 DR
    go_wp2_with fail
    refine (HA.out _ (HT.out.below B4.out)).mono ?_; rintro e w5 ⟨d3, rfl, T3, hb5⟩
    have B5 := Lib.hid (below_step B4.out hb5)
    clear hb5 B4 HA
    go_wp2_with fail
    refine (HR.out _ _ T3 _ (HE.out.below B5.out)).mono ?_; rintro e w6 ⟨rfl, hb6⟩
    have B6 := Lib.hid (below_step B5.out hb6)
    clear hb6 B5 T3 HR
    go_wp2_with fail
    refine (AP.out _).mono ?_; rintro e w7 ⟨rfl, rfl⟩
    clear AP HE HT
    go_wp2
    go_ret
    exact ⟨rfl, B6.out⟩
  · rcases Int.lt_or_le 3599999999000000 a with c1 | c1
    · clear c
      go_enter Tryd.func6, Tryd.ntmps6
      go_wp2_with fail
      refine (D1.out _ HT.out).mono ?_; rintro e w1 ⟨d1, rfl, T1, hb1⟩
      have B1 := Lib.hid hb1
      clear hb1 D1
      go_wp2_with fail
      refine (DR.out _ _ T1 _ (HE.out.below B1.out)).mono ?_; rintro e w2 ⟨rfl, hb2⟩
      have B2 := Lib.hid (below_step B1.out hb2)
      clear hb2 B1 T1 DR HR HE HT
      go_wp2
      go_ret
      exact ⟨rfl, B2.out⟩
    · have c2 : a < -3599999999000000 := by omega
      clear c
      go_enter Tryd.func6, Tryd.ntmps6
      go_wp2_with fail
      refine (D1.out _ HT.out).mono ?_; rintro e w1 ⟨d1, rfl, T1, hb1⟩
      have B1 := Lib.hid hb1
      clear hb1 D1
      go_wp2_with fail
      refine (DR.out _ _ T1 _ (HE.out.below B1.out)).mono ?_; rintro e w2 ⟨rfl, hb2⟩
      have B2 := Lib.hid (below_step B1.out hb2)
      clear hb2 B1 T1 DR HR HE HT
      go_wp2
      go_ret
      exact ⟨rfl, B2.out⟩
end Go.Proofs.YtpkifhmnibepiaaDoor
