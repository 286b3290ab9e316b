/- StackOf of package meridianref4: its walk. -/
import Derived.Test.YtjdjncfpcbeedaaDoorStkO
namespace Go.Proofs.YtjdjncfpcbeedaaDoor
open Go.RowKit

set_option maxRecDepth 20000 in
set_option maxHeartbeats 4000000 in
theorem stackOf_bad (D : PicsD) (p : Option Addr) (m cap : Nat) (er : Nat) (w : World) (hP : Pics w p m D) (hB : stkB D m er) (hm : m ≤ 9223372036854775807) :
    Calls Tryd.prog 16 #[.slice p m cap] w fun e w' => e = .returned (.tuple #[.slice none 0 0, .int .i64 (er + 1 : Nat)]) ∧ Below w.heap.size w w' := by
  have HP := Lib.hid hP
  clear hP
  go_enter Tryd.func16, Tryd.ntmps16
  rcases hB with ⟨h1, rfl⟩ | ⟨rfl, rfl⟩ | ⟨h1, h2, hB⟩
  · have d1 : decide (64 < (m : Int)) = true := by simp; omega
    go_wp2
    go_ret2
    exact ⟨rfl, Below.refl _ _⟩
  · go_wp2
    go_ret2
    exact ⟨rfl, Below.refl _ _⟩
  · have d1 : decide (64 < (m : Int)) = false := by simp; omega
    have d2 : ((m : Int) == 0) = false := by simp; omega
    have HBo := Lib.hid hB
    clear hB
    go_wp2
    go_loopw [4] (fun i wr => ∃ k : Nat, k ≤ m ∧ i = .int .i64 k ∧ Hid (goodAll D k) ∧ Hid (Below w.heap.size w wr)) (fun i _ => m - (intOf i).toNat)
    case atStart => exact ⟨0, Nat.zero_le _, rfl, Lib.hid (fun j hj => by omega), Lib.hid (Below.refl _ _)⟩
    case round =>
      obtain ⟨k, hk, rfl, hgk, hw⟩ := hrel
      by_cases hlt : k < m
      · obtain ⟨lb, lo, rfl, hlb, hpa, _, _, hn⟩ := (HP.out.below hw.out).at hlt
        by_cases g : picG (D.W k) (D.H k) (D.n k) (D.f k)
        · have HV := Lib.hid (picE_ok lb (lo + k * 3) (D.W k) (D.H k) (D.f k) (D.a k) (D.n k) (D.c k) wr hpa g)
          have HG2 : Hid (goodAll D (k + 1)) := Lib.hid (fun j hj => by
            by_cases c : j = k
            · subst c; exact g
            · exact hgk.out j (by omega))
          clear g hpa
          go_wp2_with fail
          refine HV.out.mono ?_; rintro e w2 ⟨rfl, hb2⟩
          have HW2 := Lib.hid (below_step hw.out hb2)
          clear hb2 HV hw
          go_wp2
          go_roundw
          case rel => exact ⟨k + 1, by omega, by go_num, HG2, HW2⟩
          case measure => simp [intOf]; omega
        · have HV := Lib.hid (picE_bad lb (lo + k * 3) (D.W k) (D.H k) (D.f k) (D.a k) (D.n k) (D.c k) wr hpa hn g)
          have her : er = picB (D.W k) (D.H k) := by
            rcases HBo.out with ⟨i, i1, i2, i3, i4⟩ | ⟨i1, _⟩
            · have : i = k := by
                rcases Nat.lt_trichotomy i k with c | c | c
                · exact absurd (hgk.out i c) i3
                · exact c
                · exact absurd (i2 k c) g
              rw [← this]; exact i4
            · exact absurd (i1 k hlt) g
          rw [← her] at HV
          have hpe : (0 : Int) < ((er + 1 : Nat) : Int) := by omega
          clear g hpa her
          go_wp2_with fail
          refine HV.out.mono ?_; rintro e w2 ⟨rfl, hb2⟩
          have HB2 := Lib.hid (below_step hw.out hb2)
          clear hb2 HV hw
          go_wp2
          go_ret2
          exact ⟨rfl, HB2.out⟩
      · obtain rfl : k = m := by omega
        have hno : ¬ alikeN D k ∧ er = 4 := by
          rcases HBo.out with ⟨i, i1, i2, i3, i4⟩ | ⟨_, i2, i3⟩
          · exact absurd (hgk.out i i1) i3
          · exact ⟨i2, i3⟩
        obtain ⟨hno, rfl⟩ := hno
        have HNo := Lib.hid hno
        obtain ⟨lb, lo, rfl, hlb, hpa, _⟩ := (HP.out.below hw.out).at h2
        rw [Nat.zero_mul, Nat.add_zero] at hpa
        have HPA := Lib.hid hpa
        clear hno hpa
        go_wp2
        generalize wr = wo at *
        go_loopw [6] (fun i wr => ∃ j : Nat, j ≤ k ∧ i = .int .i64 j ∧ Hid (alikeN D j) ∧ Hid (Below wo.heap.size wo wr)) (fun i _ => k - (intOf i).toNat)
        case atStart => exact ⟨0, Nat.zero_le _, rfl, Lib.hid (fun j hj => by omega), Lib.hid (Below.refl _ _)⟩
        case round =>
          obtain ⟨j, hj, rfl, hal, hw2⟩ := hrel
          by_cases hjt : j < k
          · obtain ⟨lb', lo', e', _, hpj, _⟩ := (HP.out.below (below_step hw.out hw2.out)).at hjt
            cases e'
            obtain ⟨p0, p1, _⟩ := hpj
            obtain ⟨q0, q1, _⟩ := HPA.out.below hw2.out
            have HY := Lib.hid (fun h => alikeN_succ (k := j) hal.out h)
            by_cases c1 : D.W j = D.W 0
            · have e1 : (D.W j != D.W 0) = false := by simp [c1]
              by_cases c2 : D.H j = D.H 0
              · have e2 : (D.H j != D.H 0) = false := by simp [c2]
                have HZ := Lib.hid (HY.out ⟨c1, c2⟩)
                clear HY c1 c2
                go_wp2
                go_quiet (fail)
                go_wp2
                go_roundw
                case rel => exact ⟨j + 1, by omega, by go_num, HZ, Lib.hid (below_drewN hw2.out _)⟩
                case measure => simp [intOf]; omega
              · have e2 : (D.H j != D.H 0) = true := by simp [c2]
                clear HY c1 c2
                go_wp2
                go_quiet (fail)
                go_wp2
                go_ret2
                exact ⟨rfl, below_drewN (below_step hw.out hw2.out) _⟩
            · have e1 : (D.W j != D.W 0) = true := by simp [c1]
              clear HY c1
              go_wp2
              go_quiet (fail)
              go_wp2
              go_ret2
              exact ⟨rfl, below_drewN (below_step hw.out hw2.out) _⟩
          · exfalso
            obtain rfl : j = k := by omega
            exact HNo.out hal.out
end Go.Proofs.YtjdjncfpcbeedaaDoor
