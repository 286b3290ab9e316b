/- lshVU: a row of words shifted to the left by less than a word. -/
import Derived.Test.YtmkdcnemocdefaaGreatFmtCopy
import Derived.Test.YtmkdcnemocdefaaGreatFmtBitw
namespace Go.Proofs.YtmkdcnemocdefaaGreatFmt
open Go.RowKit

theorem put_down (f z : Nat → Nat) (o i n : Nat) (h : i < n) : upd (put f (o + (i + 1)) (n - (i + 1)) (fun j => z (i + 1 + j))) (o + i) (z i) = put f (o + i) (n - i) (fun j => z (i + j)) := by
  funext j
  unfold upd put
  by_cases a : j = o + i
  · subst a
    rw [if_pos rfl, if_pos ⟨by omega, by omega⟩]
    show z i = z (i + (o + i - (o + i)))
    congr 1; omega
  · rw [if_neg a]
    by_cases b : o + (i + 1) ≤ j ∧ j < o + (i + 1) + (n - (i + 1))
    · rw [if_pos b, if_pos ⟨by omega, by omega⟩]
      show z (i + 1 + (j - (o + (i + 1)))) = z (i + (j - (o + i)))
      congr 1; omega
    · rw [if_neg b, if_neg (by omega)]
theorem Blk.down {w : World} {g C o i n : Nat} {f z : Nat → Nat} (h : Blk w g C (Proofs.YtmkdcnemocdefaaGreatFmt.put f (o + (i + 1)) (n - (i + 1)) (fun j => z (i + 1 + j)))) (hi : i < n) (v : Nat) (hv : v = z i) :
    Blk (w.setCell ⟨g, o + i, none⟩ (.int .u64 (v : Int))) g C (Proofs.YtmkdcnemocdefaaGreatFmt.put f (o + i) (n - i) (fun j => z (i + j))) := by
  subst hv
  rw [← put_down f z o i n hi]
  exact h.set (o + i) (z i)
/-- While a row is written from above, the words not yet reached read as before. -/
theorem row_down {w wr : World} {gx ox gz oz C n i m : Nat} {x f z : Nat → Nat} (hx : WR w gx ox n x) (hz : Blk w gz C f) (hb : Blk wr gz C (put f (oz + i) m z)) (ho : Only w wr gz)
    (hal : gx ≠ gz ∨ ox = oz) (hc : oz + n ≤ C) (j : Nat) (h1 : j < i) (h2 : j < n) : wr.cell? ⟨gx, ox + j, none⟩ = some (.int .u64 (x j : Int)) := by
  by_cases e : gx = gz
  · subst e
    have e2 : ox = oz := by
      rcases hal with h | h
      · exact absurd rfl h
      · exact h
    subst e2
    have a := hz.cell (ox + j) (by omega)
    rw [hx j h2] at a
    have b := hb.cell (ox + j) (by omega)
    rw [put_out f (ox + i) m z (ox + j) (by omega), ← a] at b
    exact b
  · rw [ho.cell e]; exact hx j h2

set_option maxHeartbeats 1000000 in
theorem lshVU_any (gz oz cz gx ox cx n C s : Nat) (x f : Nat → Nat) (w : World) (hz : Blk w gz C f) (hC : oz + n ≤ C) (hx : WR w gx ox n x) (hal : gx ≠ gz ∨ ox = oz) (wx : Wds x n) (hs : 1 ≤ s) (hs2 : s ≤ 63) (h1 : 1 ≤ n) (hn : n ≤ 1000000) :
    Calls Tryz.prog 25 #[.slice (some ⟨gz, oz, none⟩) n cz, .slice (some ⟨gx, ox, none⟩) n cx, .int .u64 (s : Int)] w fun e w' =>
      e = .returned (.int .u64 (shc x s n : Int)) ∧ Blk w' gz C (put f oz n (shlW x s)) ∧ Only w w' gz := by
  have b1 : bits .and .u64 (s : Int) 63 = (s : Int) := and_63 s (by omega)
  have b2 : bits .and .u64 (64 - (s : Int)) 63 = 64 - (s : Int) := and_63' s hs (by omega)
  have n0 : ¬ ((n : Int) = 0) := by omega
  have s0 : ¬ ((s : Int) = 0) := by omega
  have sb : ((s : Int) == 0) = false := beq_eq_false_iff_ne.2 s0
  have nb : ((n : Int) == 0) = false := beq_eq_false_iff_ne.2 n0
  have l1 := hx (n - 1) (by omega)
  have en : ((n - 1 : Nat) : Int) = (n : Int) - 1 := by omega
  have ct := shl_top x s n h1
  have cl := shl_low x s
  have HO : Hid (∀ i, 1 ≤ i → i < n → bits .or .u64 ((x i : Int) * 2 ^ s % 18446744073709551616) ((x (i - 1) : Int) / 2 ^ (64 - s)) = (shlW x s i : Int)) := Lib.hid (fun i h1 h2 => or_shl x s i hs2 h1 (wx (i - 1) (by omega)))
  have HX := Lib.hid (fun wr i m z hb ho j h1 h2 => row_down (wr := wr) (i := i) (m := m) (z := z) hx hz hb ho hal hC j h1 h2)
  have HC := Lib.hid hC
  have h0 : Hid (Blk w gz C (put f (oz + (n - 1 + 1)) (n - (n - 1 + 1)) (fun j => shlW x s (n - 1 + 1 + j)))) := Lib.hid (by
    rw [show n - (n - 1 + 1) = 0 by omega, put_none]; exact hz)
  have WX := Lib.hid wx
  clear hx hz hal hC wx
  go_enter Tryz.func25, Tryz.ntmps25
  go_wp2
  go_loopw [8] (fun k wr => ∃ i : Nat, i + 1 ≤ n ∧ k = .int .i64 i ∧ Hid (Blk wr gz C (put f (oz + (i + 1)) (n - (i + 1)) (fun j => shlW x s (i + 1 + j)))) ∧ Hid (Only w wr gz)) (fun k _ => (intOf k).toNat)
  case atStart => exact ⟨n - 1, by omega, by rw [en], h0, Lib.hid (Only.refl _ _)⟩
  case round =>
    obtain ⟨i, hi, rfl, hb, ho⟩ := hrel
    rcases Nat.eq_zero_or_pos i with h | h
    · subst h
      have lx := HX.out _ 1 _ _ hb.out ho.out 0 (by omega) (by omega)
      have lz := hb.out.cell (oz + 0) (by have := HC.out; omega)
      have lf := hb.out.frozen (oz + 0)
      rw [Nat.add_zero] at lx lz lf
      clear b1 b2
      go_wp2
      go_ret
      have e : put f oz n (shlW x s) = put f (oz + 0) (n - 0) (fun j => shlW x s (0 + j)) := by
        simp
      rw [e]
      refine ⟨rfl, ?_, ho.out.set _ _⟩
      have hb2 := hb.out.down h1 (shlW x s 0) rfl
      rw [Nat.add_zero] at hb2
      exact hb2
    · have lx := HX.out _ (i + 1) _ _ hb.out ho.out i (by omega) (by omega)
      have ly := HX.out _ (i + 1) _ _ hb.out ho.out (i - 1) (by omega) (by omega)
      have lz := hb.out.cell (oz + i) (by have := HC.out; omega)
      have lf := hb.out.frozen (oz + i)
      have hor := HO.out i h (by omega)
      have hor2 : bits .or .u64 (IntKind.u64.wrap ((x i : Int) * 2 ^ s)) ((x (i - 1) : Int) / 2 ^ (64 - s)) = (shlW x s i : Int) := by
        rw [← hor]; rfl
      have ei : ((i - 1 : Nat) : Int) = (i : Int) - 1 := by omega
      clear b1 b2
      go_wp2_with fail
      go_region
      all_goals
        go_simp
        go_wp2
        refine ⟨⟨i - 1, by omega, by rw [ei], Lib.hid ?_, Lib.hid ((ho.out.set _ _).drewN 1)⟩, by simp [intOf]; omega⟩
        have hb2 := (hb.out.down (show i < n by omega) (shlW x s i) rfl).drewN 1
        rw [show i - 1 + 1 = i by omega]
        exact hb2
end Go.Proofs.YtmkdcnemocdefaaGreatFmt
