/- bits.Read: its walk. -/
import Derived.Test.YtpkifhmnibepiaaDoorHexP
import Derived.Test.YtpkifhmnibepiaaDoorTab
namespace Go.Proofs.YtpkifhmnibepiaaDoor
open Go.RowKit

def ReadBP (w : World) (ad : Addr) (o : Out) (e : Ending) (w' : World) : Prop :=
  match o with
  | .ok n _ => e = .returned (.tuple #[.float .f64 n.toNat, .nilIface]) ∧ Below w.heap.size w w'
  | .bad k => ∃ f, w.heap.size ≤ f ∧ e = .returned (.tuple #[.float .f64 0, .iface 125 (.pointer (some ⟨f, 0, none⟩))]) ∧ w'.cell? ⟨f, 0, none⟩ = some (.int .i64 k) ∧ w'.cell? ⟨f, 1, none⟩ = some (.iface 258 (.pointer (some ad))) ∧ Below w.heap.size w w'
theorem pow16_le (j : Nat) (h : j ≤ 15) : 16 ^ j ≤ 1152921504606846976 := Nat.pow_le_pow_right (by decide) h
theorem hexD_dig {c : Nat} (h : 48 ≤ c ∧ c ≤ 57) : hexD c = some (c - 48) := by unfold hexD; rw [if_pos h]
theorem hexD_low {c : Nat} (h : 97 ≤ c ∧ c ≤ 102) : hexD c = some (c - 87) := by unfold hexD; rw [if_neg (by omega), if_pos h]
theorem hexD_up {c : Nat} (h : 65 ≤ c ∧ c ≤ 70) : hexD c = some (c - 55) := by unfold hexD; rw [if_neg (by omega), if_neg (by omega), if_pos h]
theorem hexD_no {c : Nat} (h1 : ¬ (48 ≤ c ∧ c ≤ 57)) (h2 : ¬ (97 ≤ c ∧ c ≤ 102)) (h3 : ¬ (65 ≤ c ∧ c ≤ 70)) : hexD c = none := by unfold hexD; rw [if_neg h1, if_neg h2, if_neg h3]
theorem rdB_bad {w wr : World} {ad : Addr} {o : Out} {k : Nat} {z : Int} (ho : o = .bad k) (hz : z = (k : Int)) (hb : Below w.heap.size w wr) :
    ReadBP w ad o (.returned (.tuple #[.float .f64 0, .iface 125 (.pointer (some ⟨wr.heap.size, 0, none⟩))])) (wr.alloc (.cells #[.int .i64 z, .iface 258 (.pointer (some ad))] 127)).drew := by
  subst ho hz
  exact ⟨wr.heap.size, hb.size, rfl, by simp, by simp, (hb.alloc hb.size _).drew⟩
set_option maxRecDepth 20000 in
set_option maxHeartbeats 4000000 in
theorem readB_any (s : ByteArray) (hs : s.size ≤ 1000000) (ad : Addr) (w : World) (hE : w.cell? ⟨0, 0, none⟩ = some (.iface 258 (.pointer (some ad)))) :
    Calls Tryd.prog 23 #[.string s] w (ReadBP w ad (rdF s 16 0 0)) := by
  have h32 := @run_callFunc_extern Tryd.prog 78 _ Extern.MathFloatBits.float64frombits Tryd.func78 (by kernel_rfl) (by kernel_rfl) (by kernel_rfl) (by kernel_rfl)
  have h33 : ∀ (n : Nat) (W : World), (Extern.MathFloatBits.float64frombits #[.int .u64 n]).run Tryd.prog W = .ok (.float .f64 n) W := fun n W => by
    show Result.ok (Value.float .f64 (Int.toNat n)) W = _
    rw [Int.toNat_natCast]
  have HE := Lib.hid hE
  have hl := cell_lt hE
  clear hE
  have hor := u64_or16
  generalize ho : rdF s 16 0 0 = o at *
  have HO := Lib.hid ho
  clear ho
  go_enter Tryd.func23, Tryd.ntmps23
  go_wp2
  go_loopw [4, 7] (fun n v wr => ∃ a j : Nat, j ≤ 16 ∧ a < 16 ^ j ∧ n = .int .u64 a ∧ v = .int .i64 j ∧ Hid (rdF s (16 - j) j a = o) ∧ Below w.heap.size w wr) (fun _ v _ => 16 - (intOf v).toNat)
  case atStart => exact ⟨0, 0, by omega, by decide, rfl, rfl, Lib.hid HO.out, Below.refl _ _⟩
  case round =>
    obtain ⟨a, j, hj, ha, rfl, rfl, HR, hb⟩ := hrel
    have HB := Lib.hid hb
    have e0 : wr.cell? ⟨0, 0, none⟩ = some (.iface 258 (.pointer (some ad))) := by rw [hb.cell (p := ⟨0, 0, none⟩) hl]; exact HE.out
    clear hb
    by_cases hj16 : j = 16
    · subst hj16
      have HR2 : Hid ((if 16 < s.size then Out.bad 16 else Out.ok (a : Int) 16) = o) := Lib.hid HR.out
      clear HR
      by_cases cl : 16 < s.size
      · rw [if_pos cl] at HR2
        go_wp2
        go_region
        all_goals
          go_wp2
          go_ret2
          exact rdB_bad HR2.out.symm rfl HB.out
      · rw [if_neg cl] at HR2
        go_wp2
        go_ret2
        rw [← HR2.out]
        exact ⟨rfl, HB.out⟩
    · have hj15 : j ≤ 15 := by omega
      have ha2 : a < 1152921504606846976 := by have := pow16_le j hj15; omega
      by_cases cl : j < s.size
      · have hbt := bt_in cl
        have HBT := Lib.hid hbt
        have hstep : ∀ d : Nat, hexD s[j].toNat = some d → Hid (rdF s (16 - (j + 1)) (j + 1) (a * 16 + d) = o) ∧ a * 16 + d < 16 ^ (j + 1) := fun d hd => by
          have h := rdF_some (n := a) cl (by omega : j < 16) (by rw [HBT.out]; exact hd)
          have := hexD_lt hd
          exact ⟨Lib.hid (h.symm.trans HR.out), by rw [Nat.pow_succ]; omega⟩
        have HS := Lib.hid hstep
        clear hstep hbt
        by_cases c1 : 48 ≤ s[j].toNat ∧ s[j].toNat ≤ 57
        · obtain ⟨HN, hp⟩ := HS.out _ (hexD_dig c1)
          have ho := u64_or16 a (s[j].toNat - 48) ha2 (by omega)
          have he : (s[j].toNat : Int) - 48 = ((s[j].toNat - 48 : Nat) : Int) := by omega
          have HH : Hid (bits .or .u64 ((a : Int) * 16) ((s[j].toNat : Int) - 48) = ((a * 16 + (s[j].toNat - 48) : Nat) : Int)) := Lib.hid (by rw [he]; exact ho)
          clear ho he
          have HP := Lib.hid hp
          clear HS hp HR HBT
          obtain ⟨c11, c12⟩ := c1
          go_wp2
          go_roundw
          case rel => exact ⟨_, j + 1, by omega, HP.out, by rw [HH.out], by go_num, HN, HB.out⟩
          case measure => simp [intOf]; omega
        by_cases c2 : 97 ≤ s[j].toNat ∧ s[j].toNat ≤ 102
        · obtain ⟨HN, hp⟩ := HS.out _ (hexD_low c2)
          have ho := u64_or16 a (s[j].toNat - 87) ha2 (by omega)
          have he : (s[j].toNat : Int) - 87 = ((s[j].toNat - 87 : Nat) : Int) := by omega
          have HH : Hid (bits .or .u64 ((a : Int) * 16) ((s[j].toNat : Int) - 87) = ((a * 16 + (s[j].toNat - 87) : Nat) : Int)) := Lib.hid (by rw [he]; exact ho)
          clear ho he
          have HP := Lib.hid hp
          clear HS hp HR HBT
          obtain ⟨c21, c22⟩ := c2
          clear c1
          go_wp2
          go_roundw
          case rel => exact ⟨_, j + 1, by omega, HP.out, by rw [HH.out], by go_num, HN, HB.out⟩
          case measure => simp [intOf]; omega
        by_cases c3 : 65 ≤ s[j].toNat ∧ s[j].toNat ≤ 70
        · obtain ⟨HN, hp⟩ := HS.out _ (hexD_up c3)
          have ho := u64_or16 a (s[j].toNat - 55) ha2 (by omega)
          have he : (s[j].toNat : Int) - 55 = ((s[j].toNat - 55 : Nat) : Int) := by omega
          have HH : Hid (bits .or .u64 ((a : Int) * 16) ((s[j].toNat : Int) - 55) = ((a * 16 + (s[j].toNat - 55) : Nat) : Int)) := Lib.hid (by rw [he]; exact ho)
          clear ho he
          have HP := Lib.hid hp
          clear HS hp HR HBT
          obtain ⟨c31, c32⟩ := c3
          clear c1 c2
          go_wp2
          go_roundw
          case rel => exact ⟨_, j + 1, by omega, HP.out, by rw [HH.out], by go_num, HN, HB.out⟩
          case measure => simp [intOf]; omega
        · have HR2 := Lib.hid ((rdF_none (n := a) cl (by omega : j < 16) (by rw [HBT.out]; exact hexD_no c1 c2 c3)).symm.trans HR.out)
          clear HS HBT HR
          go_wp2
          all_goals try omega
          all_goals go_region
          all_goals
            go_wp2
            go_ret2
            exact rdB_bad HR2.out.symm rfl HB.out
      · have HR2 := Lib.hid (rdF_end (n := a) (Nat.le_of_not_lt cl) (by omega : j < 16) |>.symm.trans HR.out)
        go_wp2
        go_region
        all_goals
          go_wp2
          go_ret2
          exact rdB_bad HR2.out.symm rfl HB.out
end Go.Proofs.YtpkifhmnibepiaaDoor
