/- ReadBits of package meridianref1: its walk. -/
import Derived.Test.YtpkifhmnibepiaaDoorReadB
namespace Go.Proofs.YtpkifhmnibepiaaDoor
open Go.RowKit

def refB : Out → Nat × Int × Int
  | .ok n _ => (n.toNat, 0, -1)
  | .bad x => (0, 1, x)
def RefBP (w : World) (r : Nat × Int × Int) (e : Ending) (w' : World) : Prop := e = .returned (.tuple #[.float .f64 r.1, .agg #[.int .i64 r.2.1, .int .i64 r.2.2]]) ∧ Below w.heap.size w w'
set_option maxRecDepth 20000 in
set_option maxHeartbeats 4000000 in
theorem readBits_any (s : ByteArray) (hs : s.size ≤ 1000000) (w : World) :
    Calls Tryd.prog 24 #[.string s] w (RefBP w (refB (rdF s 16 0 0))) := by
  have h32 := @run_callFunc_extern Tryd.prog 78 _ Extern.MathFloatBits.float64frombits Tryd.func78 (by kernel_rfl) (by kernel_rfl) (by kernel_rfl) (by kernel_rfl)
  have h33 : ∀ (n : Nat) (W : World), (Extern.MathFloatBits.float64frombits #[.int .u64 n]).run Tryd.prog W = .ok (.float .f64 n) W := fun n W => by
    show Result.ok (Value.float .f64 (Int.toNat n)) W = _
    rw [Int.toNat_natCast]
  generalize ho : rdF s 16 0 0 = o at *
  have HO := Lib.hid ho
  clear ho
  go_enter Tryd.func24, Tryd.ntmps24
  go_wp2
  go_loopw [4, 5] (fun n v wr => ∃ a j : Nat, j ≤ 16 ∧ a < 16 ^ j ∧ n = .int .u64 a ∧ v = .int .i64 j ∧ Hid (rdF s (16 - j) j a = o) ∧ Below w.heap.size w wr ∧ wr.cell? ⟨w.heap.size, 0, none⟩ = some (.int .i64 0) ∧ wr.cell? ⟨w.heap.size, 1, none⟩ = some (.int .i64 0) ∧ wr.frozen? ⟨w.heap.size, 0, none⟩ = false ∧ wr.frozen? ⟨w.heap.size, 1, none⟩ = false) (fun _ v _ => 16 - (intOf v).toNat)
  case atStart => exact ⟨0, 0, by omega, by decide, rfl, rfl, Lib.hid HO.out, (Below.refl _ _).alloc (Nat.le_refl _) _, by simp, by simp, by simp, by simp⟩
  case round =>
    obtain ⟨a, j, hj, ha, rfl, rfl, HR, hb, R⟩ := hrel
    have HB := Lib.hid hb
    clear hb
    by_cases hj16 : j = 16
    · subst hj16
      have HR2 : Hid ((if 16 < s.size then Out.bad 16 else Out.ok (a : Int) 16) = o) := Lib.hid HR.out
      clear HR
      by_cases cl : 16 < s.size
      · rw [if_pos cl] at HR2
        have y0 := R.1
        have y1 := R.2.1
        have z0 := R.2.2.1
        have z1 := R.2.2.2
        clear R
        go_wp2
        all_goals try go_region
        all_goals
          go_wp2
          refine bodyPost_ret (v := .tuple #[.float .f64 0, .agg #[.int .i64 1, .int .i64 (16)]]) ?_ rfl ?_
          · simp [results, Tryd.results24, go_sem, y0, y1, z0, z1]
          · rw [← HR2.out]
            exact ⟨rfl, by first | exact ((HB.out.setCell (by simp) _).setCell (by simp) _) | exact ((HB.out.drew.setCell (by simp) _).setCell (by simp) _) | exact ((HB.out.setCell (by simp) _).setCell (by simp) _).drew⟩
      · rw [if_neg cl] at HR2
        have y0 := R.1
        have y1 := R.2.1
        have z0 := R.2.2.1
        have z1 := R.2.2.2
        clear R
        go_wp2
        all_goals try go_region
        all_goals
          go_wp2
          refine bodyPost_ret (v := .tuple #[.float .f64 a, .agg #[.int .i64 0, .int .i64 (-1)]]) ?_ rfl ?_
          · simp [results, Tryd.results24, go_sem, y0, y1, z0, z1]
          · rw [← HR2.out]
            exact ⟨rfl, by first | exact ((HB.out.setCell (by simp) _).setCell (by simp) _) | exact ((HB.out.drew.setCell (by simp) _).setCell (by simp) _) | exact ((HB.out.setCell (by simp) _).setCell (by simp) _).drew⟩
    · have hj15 : j ≤ 15 := by omega
      have ha2 : a < 1152921504606846976 := by have := pow16_le j hj15; omega
      by_cases cl : j < s.size
      · have hbt := bt_in cl
        have HBT := Lib.hid hbt
        have hstep : ∀ d : Nat, hexD s[j].toNat = some d → Hid (rdF s (16 - (j + 1)) (j + 1) (a * 16 + d) = o) ∧ a * 16 + d < 16 ^ (j + 1) := fun d hd => by
          have h := rdF_some (n := a) cl (by omega : j < 16) (by rw [HBT.out]; exact hd)
          have := hexD_lt hd
          exact ⟨Lib.hid (h.symm.trans HR.out), by rw [Nat.pow_succ]; omega⟩
        have HS := Lib.hid hstep
        clear hstep hbt
        by_cases c1 : 48 ≤ s[j].toNat ∧ s[j].toNat ≤ 57
        · obtain ⟨HN, hp⟩ := HS.out _ (hexD_dig c1)
          have he : (s[j].toNat : Int) - 48 = ((s[j].toNat - 48 : Nat) : Int) := by omega
          have HP := Lib.hid hp
          clear HS hp HR HBT
          obtain ⟨c11, c12⟩ := c1
          go_wp2
          go_roundw
          case rel => exact ⟨_, j + 1, by omega, HP.out, by go_num, by go_num, HN, HB.out, R⟩
          case measure => simp [intOf]; omega
        by_cases c2 : 97 ≤ s[j].toNat ∧ s[j].toNat ≤ 102
        · obtain ⟨HN, hp⟩ := HS.out _ (hexD_low c2)
          have he : (s[j].toNat : Int) - 87 = ((s[j].toNat - 87 : Nat) : Int) := by omega
          have HP := Lib.hid hp
          clear HS hp HR HBT
          obtain ⟨c21, c22⟩ := c2
          clear c1
          go_wp2
          go_roundw
          case rel => exact ⟨_, j + 1, by omega, HP.out, by go_num, by go_num, HN, HB.out, R⟩
          case measure => simp [intOf]; omega
        by_cases c3 : 65 ≤ s[j].toNat ∧ s[j].toNat ≤ 70
        · obtain ⟨HN, hp⟩ := HS.out _ (hexD_up c3)
          have he : (s[j].toNat : Int) - 55 = ((s[j].toNat - 55 : Nat) : Int) := by omega
          have HP := Lib.hid hp
          clear HS hp HR HBT
          obtain ⟨c31, c32⟩ := c3
          clear c1 c2
          go_wp2
          go_roundw
          case rel => exact ⟨_, j + 1, by omega, HP.out, by go_num, by go_num, HN, HB.out, R⟩
          case measure => simp [intOf]; omega
        · have HR2 := Lib.hid ((rdF_none (n := a) cl (by omega : j < 16) (by rw [HBT.out]; exact hexD_no c1 c2 c3)).symm.trans HR.out)
          clear HS HBT HR
          have hub : s[j].toNat < 256 := s[j].toNat_lt
          have y0 := R.1
          have y1 := R.2.1
          have z0 := R.2.2.1
          have z1 := R.2.2.2
          clear R
          go_wp2
          all_goals try omega
          all_goals try go_region
          all_goals
            go_wp2
            refine bodyPost_ret (v := .tuple #[.float .f64 0, .agg #[.int .i64 1, .int .i64 j]]) ?_ rfl ?_
            · simp [results, Tryd.results24, go_sem, y0, y1, z0, z1]
            · rw [← HR2.out]
              exact ⟨rfl, by first | exact ((HB.out.setCell (by simp) _).setCell (by simp) _) | exact ((HB.out.drew.setCell (by simp) _).setCell (by simp) _) | exact ((HB.out.setCell (by simp) _).setCell (by simp) _).drew⟩
      · have HR2 := Lib.hid (rdF_end (n := a) (Nat.le_of_not_lt cl) (by omega : j < 16) |>.symm.trans HR.out)
        have y0 := R.1
        have y1 := R.2.1
        have z0 := R.2.2.1
        have z1 := R.2.2.2
        clear R
        go_wp2
        all_goals try go_region
        all_goals
          go_wp2
          refine bodyPost_ret (v := .tuple #[.float .f64 0, .agg #[.int .i64 1, .int .i64 (s.size)]]) ?_ rfl ?_
          · simp [results, Tryd.results24, go_sem, y0, y1, z0, z1]
          · rw [← HR2.out]
            exact ⟨rfl, by first | exact ((HB.out.setCell (by simp) _).setCell (by simp) _) | exact ((HB.out.drew.setCell (by simp) _).setCell (by simp) _) | exact ((HB.out.setCell (by simp) _).setCell (by simp) _).drew⟩
end Go.Proofs.YtpkifhmnibepiaaDoor
