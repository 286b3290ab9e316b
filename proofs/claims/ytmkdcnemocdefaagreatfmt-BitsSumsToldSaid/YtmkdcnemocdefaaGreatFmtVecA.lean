/- addVV, subVV: two rows of words of one length. -/
import Derived.Test.YtmkdcnemocdefaaGreatFmtVecP
import Derived.Test.YtmkdcnemocdefaaGreatFmtBgC
namespace Go.Proofs.YtmkdcnemocdefaaGreatFmt
open Go.RowKit

set_option maxHeartbeats 1000000 in
theorem addVV_any (gz oz cz gx ox cx gy oy cy n C : Nat) (x y f : Nat → Nat) (w : World) (hz : Blk w gz C f) (hC : oz + n ≤ C) (hx : WR w gx ox n x) (hy : WR w gy oy n y) (wx : Wds x n) (wy : Wds y n)
    (ax : gx ≠ gz ∨ ox = oz) (ay : gy ≠ gz ∨ oy = oz) (hn : n ≤ 1000000) :
    Calls Tryz.prog 23 #[.slice (some ⟨gz, oz, none⟩) n cz, .slice (some ⟨gx, ox, none⟩) n cx, .slice (some ⟨gy, oy, none⟩) n cy] w fun e w' =>
      e = .returned (.int .u64 (addC x y n : Int)) ∧ Blk w' gz C (put f oz n (addW x y)) ∧ Only w w' gz := by
  have HA := Lib.hid (fun (a b c : Nat) h1 h2 h3 W => bits_add a b c h1 h2 h3 W)
  have HX := Lib.hid (fun wr i hb ho j h1 h2 => row_keep (wr := wr) (i := i) (z := addW x y) hx hz hb ho ax hC j h1 h2)
  have HY := Lib.hid (fun wr i hb ho j h1 h2 => row_keep (wr := wr) (i := i) (z := addW x y) hy hz hb ho ay hC j h1 h2)
  have HZ := Lib.hid hz
  have WX := Lib.hid wx
  have WY := Lib.hid wy
  have HC := Lib.hid hC
  have h0 : Hid (Blk w gz C (put f oz 0 (addW x y))) := Lib.hid (by rw [put_none]; exact hz)
  clear hz hx hy wx wy ax ay hC
  go_enter Tryz.func23, Tryz.ntmps23
  go_wp2
  go_loopw [6, 25] (fun c k wr => ∃ i : Nat, i ≤ n ∧ k = .int .i64 i ∧ c = .int .u64 (addC x y i : Int) ∧ Hid (Blk wr gz C (put f oz i (addW x y))) ∧ Hid (Only w wr gz)) (fun _ k _ => n - (intOf k).toNat)
  case atStart => exact ⟨0, Nat.zero_le _, rfl, rfl, h0, Lib.hid (Only.refl _ _)⟩
  case round =>
    obtain ⟨i, hi, rfl, rfl, hb, ho⟩ := hrel
    rcases Nat.lt_or_ge i n with h | h
    · have lx := HX.out _ i hb.out ho.out i (Nat.le_refl _) h
      have ly := HY.out _ i hb.out ho.out i (Nat.le_refl _) h
      have lz := hb.out.cell (oz + i) (by have := HC.out; omega)
      have lf := hb.out.frozen (oz + i)
      have bx := WX.out i h
      have bY := WY.out i h
      have bc := addC_le (WX.out.le hi) (WY.out.le hi)
      have HA' := Lib.hid (fun W => HA.out (x i) (y i) (addC x y i) bx bY bc W)
      have e1 : (x i + y i + addC x y i) % 18446744073709551616 = addW x y i := rfl
      have e2 : (x i + y i + addC x y i) / 18446744073709551616 = addC x y (i + 1) := rfl
      rw [e1, e2] at HA'
      clear e1 e2 bc bx bY
      go_wp2
      go_quiet (first | (go_at_call 59; exact Calls.quiet_of_same (HA'.out _)))
      go_wp2
      refine ⟨⟨i + 1, h, by simp, rfl, Lib.hid ((hb.out.drewN _).put _ rfl), Lib.hid ((ho.out.drewN _).set _ _)⟩, ?_⟩
      simp only [intOf]
      omega
    · obtain rfl : i = n := by omega
      go_wp2
      go_ret
      exact ⟨rfl, hb.out, ho.out⟩
set_option maxHeartbeats 1000000 in
theorem subVV_any (gz oz cz gx ox cx gy oy cy n C : Nat) (x y f : Nat → Nat) (w : World) (hz : Blk w gz C f) (hC : oz + n ≤ C) (hx : WR w gx ox n x) (hy : WR w gy oy n y)
    (ax : gx ≠ gz ∨ ox = oz) (ay : gy ≠ gz ∨ oy = oz) (hn : n ≤ 1000000) :
    Calls Tryz.prog 24 #[.slice (some ⟨gz, oz, none⟩) n cz, .slice (some ⟨gx, ox, none⟩) n cx, .slice (some ⟨gy, oy, none⟩) n cy] w fun e w' =>
      e = .returned (.int .u64 (subC x y n : Int)) ∧ Blk w' gz C (put f oz n (subW x y)) ∧ Only w w' gz := by
  have HA := Lib.hid (fun (a b c : Nat) h3 W => bits_sub a b c h3 W)
  have HX := Lib.hid (fun wr i hb ho j h1 h2 => row_keep (wr := wr) (i := i) (z := subW x y) hx hz hb ho ax hC j h1 h2)
  have HY := Lib.hid (fun wr i hb ho j h1 h2 => row_keep (wr := wr) (i := i) (z := subW x y) hy hz hb ho ay hC j h1 h2)
  have HZ := Lib.hid hz
  have HC := Lib.hid hC
  have h0 : Hid (Blk w gz C (put f oz 0 (subW x y))) := Lib.hid (by rw [put_none]; exact hz)
  clear hz hx hy ax ay hC
  go_enter Tryz.func24, Tryz.ntmps24
  go_wp2
  go_loopw [6, 25] (fun c k wr => ∃ i : Nat, i ≤ n ∧ k = .int .i64 i ∧ c = .int .u64 (subC x y i : Int) ∧ Hid (Blk wr gz C (put f oz i (subW x y))) ∧ Hid (Only w wr gz)) (fun _ k _ => n - (intOf k).toNat)
  case atStart => exact ⟨0, Nat.zero_le _, rfl, rfl, h0, Lib.hid (Only.refl _ _)⟩
  case round =>
    obtain ⟨i, hi, rfl, rfl, hb, ho⟩ := hrel
    rcases Nat.lt_or_ge i n with h | h
    · have lx := HX.out _ i hb.out ho.out i (Nat.le_refl _) h
      have ly := HY.out _ i hb.out ho.out i (Nat.le_refl _) h
      have lz := hb.out.cell (oz + i) (by have := HC.out; omega)
      have lf := hb.out.frozen (oz + i)
      have HA' := Lib.hid (fun W => HA.out (x i) (y i) (subC x y i) (subC_le x y i) W)
      have e1 : (x i + 18446744073709551616 - y i - subC x y i) % 18446744073709551616 = subW x y i := rfl
      have e2 : (if x i < y i + subC x y i then 1 else 0 : Nat) = subC x y (i + 1) := rfl
      rw [e1, e2] at HA'
      clear e1 e2
      go_wp2
      go_quiet (first | (go_at_call 69; exact Calls.quiet_of_same (HA'.out _)))
      go_wp2
      refine ⟨⟨i + 1, h, by simp, rfl, Lib.hid ((hb.out.drewN _).put _ rfl), Lib.hid ((ho.out.drewN _).set _ _)⟩, ?_⟩
      simp only [intOf]
      omega
    · obtain rfl : i = n := by omega
      go_wp2
      go_ret
      exact ⟨rfl, hb.out, ho.out⟩
end Go.Proofs.YtmkdcnemocdefaaGreatFmt
