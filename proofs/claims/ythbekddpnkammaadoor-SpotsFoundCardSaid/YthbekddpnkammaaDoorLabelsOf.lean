/- The reference's labels: what LabelsOf computes. -/
import Derived.Test.YthbekddpnkammaaDoorProp
namespace Go.Proofs.YthbekddpnkammaaDoor
open Go.RowKit

def bN (v : Value) : Nat := match v with
  | .bool true => 1
  | _ => 0
theorem bN_true : bN (.bool true) = 1 := rfl
theorem bN_false : bN (.bool false) = 0 := rfl

def NG (Z : Nat → Int) (k : Nat) : Nat → Int := fun x => if x < k then -(Z x) else Z x
theorem NG_zero (Z : Nat → Int) (x : Nat) : NG Z 0 x = Z x := if_neg (Nat.not_lt_zero _)
theorem NG_at (Z : Nat → Int) (k : Nat) : NG Z k k = Z k := if_neg (Nat.lt_irrefl _)
theorem NG_step (Z : Nat → Int) (k x : Nat) : putZ (NG Z k) k (-(Z k)) x = NG Z (k + 1) x := by
  unfold putZ NG
  by_cases e : x = k
  · subst e; rw [if_pos rfl, if_pos (by omega)]
  · rw [if_neg e]
    by_cases c : x < k
    · rw [if_pos c, if_pos (by omega)]
    · rw [if_neg c, if_neg (by omega)]
theorem labels_bd {lit : Nat → Bool} {wide n : Nat} {f : Nat → Int} (h : Labels lit wide n f) {k : Nat} (hk : k < n) : 0 ≤ f k ∧ f k ≤ n := by
  cases hl : lit k with
  | false => rw [(h k hk).1 hl]; omega
  | true =>
    obtain ⟨r, h1, h2, _⟩ := root_exists hl hk
    rw [(h k hk).2 r h1 h2]
    have := rc_le (lit := lit) (wide := wide) (n := n) (r + 1)
    have := h1.2.1
    omega

set_option maxRecDepth 10000 in
set_option maxHeartbeats 8000000 in
theorem labelsOf_any (lit : Nat → Bool) (n wide : Nat) (hw : 0 < wide) (hd : n % wide = 0) (hn : n ≤ 65536) (pa : Option Addr) (ca : Nat) (w : World) (hL : Bools w pa n lit) :
    Calls Tryd.prog 30 #[.slice pa n ca, .int .i64 wide] w fun e w' => ∃ Z : Nat → Int, e = .returned (.tuple #[.slice (some ⟨w.heap.size, 0, none⟩) n n, .int .i64 (rc lit wide n n : Nat)]) ∧ WZ w w.heap.size n Z w' ∧ Labels lit wide n Z := by
  obtain ⟨i0, hi, hz0, hz1, hz2⟩ := info_parts info_int'
  have HL := Lib.hid (fun k (hk : k < n) => hL.at hk)
  have hwn : 0 < n → wide ≤ 65536 := fun h => by
    have := Nat.le_of_dvd h (Nat.dvd_of_mod_eq_zero hd)
    omega
  have HWN := Lib.hid hwn
  clear hL hd hwn
  go_enter Tryd.func30, Tryd.ntmps30
  go_wp2_with (refine wpList_make_full _ rfl (.tmp 18) (.tmp 18) 26 rfl w.heap.size 3 i0 (.int .i64 0) 1 Tryd.underlying26 hi hz0 hz1 .i64 .i64 (n : Int) (n : Int) n rfl rfl rfl rfl (by rw [hz2]; omega) (by unfold maxLen; omega) (Nat.le_refl _) ?_; intro w1 hown hgrow)
  have hW0 : WR w w.heap.size n (fun _ => 0) w1 := ⟨outC_made hown, (Below.refl _ _).grown hgrow (Nat.le_refl _) (fun j hj => by cases hj), (hown.lt _ rfl).2, rfl⟩
  have HW0 := Lib.hid (hW0.congr (N := L0F lit 0) fun j _ => (L0F_zero j).symm)
  clear hown hgrow hW0
  go_wp2
  go_loopw [8] (fun x wr => ∃ i : Nat, i ≤ n ∧ x = .int .i64 i ∧ Hid (WR w w.heap.size n (L0F lit i) wr)) (fun x _ => n - (intOf x).toNat)
  case atStart => exact ⟨0, Nat.zero_le _, rfl, HW0⟩
  case round =>
    obtain ⟨i, hil, rfl, hW⟩ := hrel
    clear HW0
    by_cases hlt : i < n
    · obtain ⟨b, o, rfl, hb, hc⟩ := HL.out i hlt
      have c1 : wr.cell? ⟨b, o + i, none⟩ = some (.bool (lit i)) := by rw [hW.out.2.1.cell (p := ⟨b, o + i, none⟩) hb]; exact hc
      obtain ⟨c2, f2⟩ := hW.out.1 i hlt
      clear hc
      cases hl : lit i with
      | false =>
        rw [hl] at c1
        have HW := Lib.hid (hW.out.congr fun j _ => L0F_dark hl j)
        clear hl hW
        go_wp2
        go_roundw
        case rel => exact ⟨i + 1, by omega, by go_num, HW⟩
        case measure => simp [intOf]; omega
      | true =>
        rw [hl] at c1
        have hW2 := (hW.out.put hlt (i + 1)).congr fun j _ => L0F_lit hl j
        rw [Int.natCast_add, Int.natCast_one] at hW2
        have HW := Lib.hid hW2
        clear hl hW hW2
        go_wp2
        go_roundw
        case rel => exact ⟨i + 1, by omega, by go_num, HW⟩
        case measure => simp [intOf]; omega
    · obtain rfl : i = n := by omega
      have HIP : Hid (IP lit wide i (L0F lit i)) := Lib.hid IP.start
      go_wp2
      go_loopw [9] (fun a wr => ∃ (ag : Bool) (L : Nat → Nat), a = .bool ag ∧ Hid (IP lit wide i L) ∧ Hid (WR w w.heap.size i L wr) ∧ Hid (ag = false → ∀ j, j < i → St lit wide i L j)) (fun a wr => 2 * sumW wr w.heap.size i + bN a)
      case atStart => exact ⟨true, L0F lit i, rfl, HIP, hW, fun h => by cases h⟩
      case round =>
        clear hW HIP
        obtain ⟨ag, L, rfl, hI, hW, hS⟩ := hrel
        cases ag with
        | true =>
          clear hS
          have HN0 : Hid (sumW wr w.heap.size i = sumF L i) := Lib.hid (sumW_eq hW.out.1 i (Nat.le_refl _))
          generalize wr = wo at *
          go_wp2
          go_loopw [9, 10] (fun a x wr3 => ∃ (ag : Bool) (j : Nat) (L3 : Nat → Nat), a = .bool ag ∧ x = .int .i64 j ∧ j ≤ i ∧ Hid (IP lit wide i L3) ∧ Hid (WR w w.heap.size i L3 wr3) ∧ Hid (ag = false → ∀ k, k < j → St lit wide i L3 k) ∧ Hid (sumF L3 i ≤ sumF L i ∧ (ag = true → sumF L3 i < sumF L i))) (fun _ x _ => i - (intOf x).toNat)
          case atStart => exact ⟨false, 0, L, rfl, rfl, Nat.zero_le _, hI, hW, fun _ k hk => absurd hk (Nat.not_lt_zero _), ⟨Nat.le_refl _, fun h => by cases h⟩⟩
          case round =>
            clear hI hW
            obtain ⟨ag, j, L3, rfl, rfl, hj, hI, hW, hS, hM⟩ := hrel
            by_cases hji : j < i
            · have hdj : decide ((j : Int) < i) = true := by simp; omega
              obtain ⟨c2, f2⟩ := hW.out.1 j hji
              by_cases h0 : L3 j = 0
              · have hl : lit j = false := by
                  cases hl : lit j with
                  | false => rfl
                  | true => have := (hI.out.pos hji).2 hl; omega
                have HS : Hid (ag = false → ∀ k, k < j + 1 → St lit wide i L3 k) := Lib.hid fun ha k hk => by
                  by_cases e : k = j
                  · subst e; intro h; rw [hl] at h; cases h
                  · exact hS.out ha k (by omega)
                rw [h0] at c2
                clear hl hS h0
                go_wp2
                go_roundw
                case rel => exact ⟨ag, j + 1, L3, rfl, by go_num, by omega, hI, hW, HS, hM⟩
                case measure => simp [intOf]; omega
              · have hb0 : (((L3 j : Nat) : Int) == 0) = false := by simp; omega
                have hlj : lit j = true := (hI.out.pos hji).1 (by omega)
                have HLE := Lib.hid (least_any L3 wide i j w.heap.size hw hji hn (HWN.out (by omega)) wr hW.out.1 (fun k hk => by have := hI.out.le hk; omega))
                clear h0
                go_wp2_with fail
                refine HLE.out.mono ?_; rintro e w4 ⟨⟨bb, rfl, hP⟩, rfl⟩
                by_cases hlt : bb < L3 j
                · have HI2 := Lib.hid (hI.out.step hw hji hlj hP hlt)
                  have HW2 := Lib.hid (hW.out.put hji bb)
                  have hsp := sumF_put (L := L3) (b := bb) hji
                  have HM : Hid (sumF (putF L3 j bb) i < sumF L i) := Lib.hid (by have := hM.out.1; omega)
                  clear hsp hP hI hW hS hM HLE hlj hb0
                  go_wp2
                  go_roundw
                  case rel => exact ⟨true, j + 1, _, rfl, by go_num, by omega, HI2, HW2, Lib.hid (fun h => by cases h), Lib.hid ⟨Nat.le_of_lt HM.out, fun _ => HM.out⟩⟩
                  case measure => simp [intOf]; omega
                · have HS : Hid (ag = false → ∀ k, k < j + 1 → St lit wide i L3 k) := Lib.hid fun ha k hk => by
                    by_cases e : k = j
                    · subst e; exact St.stay hI.out hP hlt
                    · exact hS.out ha k (by omega)
                  have hge : L3 j ≤ bb := by omega
                  clear hP hS HLE hlt hlj hb0
                  go_wp2
                  go_roundw
                  case rel => exact ⟨ag, j + 1, L3, rfl, by go_num, by omega, hI, hW, HS, hM⟩
                  case measure => simp [intOf]; omega
            · have e : j = i := by omega
              subst e
              have HMS : Hid (2 * sumW wr w.heap.size j + bN (.bool ag) < 2 * sumW wo w.heap.size j + bN (.bool true)) := Lib.hid (by
                rw [sumW_eq hW.out.1 j (Nat.le_refl _), HN0.out]
                have h1 := hM.out.1
                cases ag with
                | true => have h2 := hM.out.2 rfl; omega
                | false => rw [bN_true, bN_false]; omega)
              clear HN0 hM
              go_wp2
              go_roundw
              case rel => exact ⟨ag, L3, rfl, hI, hW, hS⟩
              case measure => exact HMS.out
        | false =>
          have HS := Lib.hid (hS.out rfl)
          have HZ := Lib.hid hW.out.toZ
          have HK := Lib.hid (RK.start hw hI.out HS.out)
          clear hS hI hW HS
          go_wp2
          go_loopw [12, 13] (fun p x wr => ∃ (j : Nat) (Z : Nat → Int), j ≤ i ∧ x = .int .i64 j ∧ p = .int .i64 (rc lit wide i j : Nat) ∧ Hid (RK lit wide i j 0 Z) ∧ Hid (WZ w w.heap.size i Z wr)) (fun _ x _ => i - (intOf x).toNat)
          case atStart => exact ⟨0, _, Nat.zero_le _, rfl, rfl, HK, HZ⟩
          case round =>
            clear HK HZ
            obtain ⟨j, Z, hj, rfl, rfl, hK, hZ⟩ := hrel
            by_cases hji : j < i
            · have hdj : decide ((j : Int) < i) = true := by simp; omega
              obtain ⟨c2, f2⟩ := hZ.out.1 j hji
              have hrj : rc lit wide i j ≤ 65536 := by have := rc_le (lit := lit) (wide := wide) (n := i) j; omega
              by_cases hz : Z j = (j : Int) + 1
              · rw [hz] at c2
                have hr := (hK.out.isRoot hji hz).1
                have HRC := Lib.hid (rc_root hr)
                have HKE := Lib.hid (hK.out.enter hw)
                have HCA : Hid (((rc lit wide i (j + 1) : Nat) : Int) = (rc lit wide i j : Nat) + 1) := Lib.hid (by rw [HRC.out]; rfl)
                have hbe : ((j : Int) + 1 == (j : Int) + 1) = true := by simp
                clear hK hr hz
                go_wp2
                go_loopw [14] (fun x wr3 => ∃ (k : Nat) (Z : Nat → Int), k ≤ i ∧ x = .int .i64 k ∧ Hid (RK lit wide i j k Z) ∧ Hid (WZ w w.heap.size i Z wr3)) (fun x _ => i - (intOf x).toNat)
                case atStart => exact ⟨j, Z, hj, rfl, HKE, hZ⟩
                case round =>
                  clear HKE hZ c2 f2
                  obtain ⟨k, Z, hk, rfl, hK, hZ⟩ := hrel
                  by_cases hki : k < i
                  · have hdk : decide ((k : Int) < i) = true := by simp; omega
                    obtain ⟨c3, f3⟩ := hZ.out.1 k hki
                    by_cases hz : Z k = (j : Int) + 1
                    · rw [hz] at c3
                      have HK2 := Lib.hid (hK.out.hit hw hki hz)
                      have hZ2 := hZ.out.put hki (-((rc lit wide i (j + 1) : Nat) : Int))
                      rw [HCA.out] at hZ2
                      have HZ2 := Lib.hid hZ2
                      clear hz hK hZ hZ2
                      go_wp2
                      go_roundw
                      case rel => exact ⟨k + 1, _, by omega, by go_num, HK2, by rw [HCA.out]; exact HZ2⟩
                      case measure => simp [intOf]; omega
                    · have HK2 := Lib.hid (hK.out.miss hz)
                      have hbz : (Z k == (j : Int) + 1) = false := by simpa using hz
                      clear hK
                      go_wp2
                      go_roundw
                      case rel => exact ⟨k + 1, Z, by omega, by go_num, HK2, hZ⟩
                      case measure => simp [intOf]; omega
                  · have e : k = i := by omega
                    subst e
                    have HK2 := Lib.hid hK.out.leave
                    clear hK
                    go_wp2
                    go_roundw
                    case rel => exact ⟨j + 1, Z, by omega, by go_num, by rw [HCA.out], HK2, hZ⟩
                    case measure => simp [intOf]; omega
              · obtain ⟨hp, hnr⟩ := hK.out.pass hji hz
                have HK2 := Lib.hid hp
                have HE := Lib.hid (rc_not hnr)
                have hbz : (Z j == (j : Int) + 1) = false := by simpa using hz
                clear hp hnr hK hz
                go_wp2
                go_roundw
                case rel => exact ⟨j + 1, Z, by omega, by go_num, by rw [HE.out], HK2, hZ⟩
                case measure => simp [intOf]; omega
            · have e : j = i := by omega
              subst e
              have HLB := Lib.hid hK.out.labels
              have HZ0 := Lib.hid (hZ.out.congr (N := NG Z 0) fun x _ => (NG_zero Z x).symm)
              clear hK hZ
              go_wp2
              go_loopw [15] (fun x wr3 => ∃ k : Nat, k ≤ j ∧ x = .int .i64 k ∧ Hid (WZ w w.heap.size j (NG Z k) wr3)) (fun x _ => j - (intOf x).toNat)
              case atStart => exact ⟨0, Nat.zero_le _, rfl, HZ0⟩
              case round =>
                clear HZ0
                obtain ⟨k, hk, rfl, hZ⟩ := hrel
                by_cases hki : k < j
                · have hdk : decide ((k : Int) < j) = true := by simp; omega
                  obtain ⟨c3, f3⟩ := hZ.out.1 k hki
                  rw [NG_at] at c3
                  have hzb := labels_bd HLB.out hki
                  have hzb2 : -65536 ≤ Z k ∧ Z k ≤ 65536 := by omega
                  have HZ2 := Lib.hid ((hZ.out.put hki (-(Z k))).congr fun x _ => NG_step Z k x)
                  clear hZ hzb
                  go_wp2
                  go_roundw
                  case rel => exact ⟨k + 1, by omega, by go_num, HZ2⟩
                  case measure => simp [intOf]; omega
                · have e : k = j := by omega
                  subst e
                  have HZ2 := Lib.hid (hZ.out.congr (N := fun x => -(Z x)) fun x hx => if_pos hx)
                  clear hZ
                  go_wp2
                  go_ret2
                  exact ⟨fun x => -(Z x), rfl, HZ2.out, HLB.out⟩
end Go.Proofs.YthbekddpnkammaaDoor
