/- meridianref4.trimmed; bytes in memory, read. -/
import Derived.Test.YtjcmpkkflboaoaaGreatDoorByt
import Derived.Test.YtjcmpkkflboaoaaGreatDoorNam
import Derived.Lib.SlBytesRow
namespace Go.Proofs.YtjcmpkkflboaoaaGreatDoor
open Go.RowKit

/-- Bytes in memory. -/
def BIn (w : World) (b o : Nat) (l : List UInt8) : Prop := ∀ i x, l[i]? = some x → w.cell? ⟨b, o + i, none⟩ = some (.int .u8 (x.toNat : Int))
theorem BIn.bytes {w : World} {b o : Nat} {l : List UInt8} (h : BIn w b o l) : Lib.Bytes w b o (bs l) := fun i hi => by
  have h1 := ba_get hi
  rw [show (bs l).data.toList = l by simp [bs]] at h1
  exact h i _ h1
/-- string of a piece. -/
theorem BIn.conv {w : World} {b o : Nat} {l : List UInt8} (h : BIn w b o l) {k n cap : Nat} (hk : k + n ≤ l.length) :
    (convert 27 9 (.slice (some ⟨b, o + k, none⟩) n cap)).run Tryz.prog w = .ok (.string (bs ((l.drop k).take n))) w := by
  have := Lib.run_convert_window (P := Tryz.prog) w 27 5 9 Tryz.underlying27 Tryz.underlying5 Tryz.underlying9 b o (bs l) h.bytes k n cap (by rw [bs_size]; exact hk)
  rw [this, Lib.extract_mk, Nat.add_sub_cancel_left]
  rfl
set_option maxRecDepth 10000 in
set_option maxHeartbeats 1000000 in
theorem trimmed_any (l : List UInt8) (b o cap : Nat) (w : World) (h : BIn w b o l) (hl : l.length ≤ 1000000) (hc : l.length ≤ cap) :
    Calls Tryz.prog 37 #[.slice (some ⟨b, o, none⟩) l.length cap] w fun e w' => e = .returned (.string (bs (Lib.trimRightB l 32))) ∧ w = w' := by
  have HB := Lib.hid h
  have HT := Lib.hid (fun k hk h1 h2 => Lib.trimRightB_take l 32 k hk h1 h2)
  clear h
  generalize hr : Lib.trimRightB l 32 = r at *
  clear hr
  obtain ⟨n, hn⟩ : ∃ n, l.length = n := ⟨_, rfl⟩
  rw [hn] at hl hc HT ⊢
  have HN := Lib.hid hn
  clear hn
  go_enter Tryz.func37, Tryz.ntmps37
  go_wp2
  go_loopw [3] (fun v wr => ∃ k : Nat, k ≤ n ∧ v = .int .i64 k ∧ Hid (∀ (j : Nat) x, k ≤ j → l[j]? = some x → x = 32) ∧ w = wr) (fun v _ => (intOf v).toNat)
  case atStart => exact ⟨n, Nat.le_refl _, rfl, Lib.hid (fun j x hj hx => by rw [List.getElem?_eq_none (by rw [HN.out]; exact hj)] at hx; cases hx), rfl⟩
  case round =>
    obtain ⟨k, hk, rfl, HA, rfl⟩ := hrel
    have hcv := HB.out.conv (k := 0) (n := k) (cap := cap) (by rw [HN.out]; omega)
    rw [Nat.add_zero, List.drop_zero] at hcv
    by_cases c0 : k = 0
    · have HR := Lib.hid (HT.out k hk HA.out (fun _ h => by omega))
      have d0 : decide ((0 : Int) < (k : Int)) = false := decide_eq_false (by omega)
      have hk0 : ¬ 0 < k := by omega
      clear c0
      clear HA
      go_wp2
      go_ret
      exact ⟨by rw [HR.out]; rfl, rfl⟩
    · obtain ⟨m, hkm⟩ : ∃ m, k = m + 1 := ⟨k - 1, by omega⟩
      have d0 : decide ((0 : Int) < (k : Int)) = true := decide_eq_true (by omega)
      have hx : l[m]? = some (l[m]'(by rw [HN.out]; omega)) := List.getElem?_eq_getElem _
      generalize (l[m]'(by rw [HN.out]; omega)) = x at *
      have hcell := HB.out m x hx
      have hidx : (k : Int) - 1 = (m : Int) := by omega
      by_cases g : x = 32
      · have HA2 : Hid (∀ (j : Nat) y, m ≤ j → l[j]? = some y → y = 32) := Lib.hid (fun j y hj hy => by
          by_cases e : j = m
          · subst e; rw [hx] at hy; rw [← Option.some.inj hy]; exact g
          · exact HA.out j y (by omega) hy)
        have e1 : ((x.toNat : Int) == 32) = true := by rw [g]; rfl
        have HKM := Lib.hid hkm
        clear HA g hx c0 hcv hkm
        generalize x.toNat = xn at *
        go_wp2
        go_roundw
        case rel => exact ⟨m, by have := HKM.out; omega, rfl, HA2, by simp⟩
        case measure => have := HKM.out; simp [intOf]; omega
      · have HR := Lib.hid (HT.out k hk HA.out (fun y _ hy => by
          rw [hkm, Nat.add_sub_cancel, hx] at hy
          rw [← Option.some.inj hy]
          exact g))
        have e1 : ((x.toNat : Int) == 32) = false := by
          rw [beq_eq_false_iff_ne]
          intro e
          exact g (UInt8.toNat_inj.1 (show x.toNat = (32 : UInt8).toNat from Int.ofNat.inj e))
        clear HA g hx c0 hkm
        generalize x.toNat = xn at *
        go_wp2
        go_ret
        exact ⟨by rw [HR.out]; rfl, rfl⟩
end Go.Proofs.YtjcmpkkflboaoaaGreatDoor
