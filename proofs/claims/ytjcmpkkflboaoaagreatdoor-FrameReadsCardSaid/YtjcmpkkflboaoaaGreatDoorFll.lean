/- frame.filled. -/
import Derived.Test.YtjcmpkkflboaoaaGreatDoorRow
namespace Go.Proofs.YtjcmpkkflboaoaaGreatDoor
open Go.RowKit

set_option maxRecDepth 20000 in
set_option maxHeartbeats 1000000 in
theorem filled_any (B : Nat) (c : UInt8) (l : List UInt8) (v : Value) (w : World) (h : GB B w v l w) (hl : l.length ≤ 900000) :
    Calls Tryz.prog 24 #[v, .int .u8 (c.toNat : Int)] w fun e w' => ∃ v', e = .returned v' ∧ GB B w v' (padR l (blk l.length) c) w' := by
  obtain ⟨i0, hi, hz0, hz1, hz2⟩ := info_parts info_byte
  obtain ⟨a, cap, rfl⟩ := h.form
  have HG := Lib.hid h
  have HF := Lib.hid (fill_pad l c)
  have hBw := h.2.2
  obtain ⟨r, hr⟩ : ∃ r, l.length % 2880 = r := ⟨_, rfl⟩
  rw [hr] at HF
  have hr2 : r < 2880 := by omega
  have e1 : (l.length : Int).tmod 2880 = (r : Int) := by rw [Int.tmod_eq_emod_of_nonneg (by omega)]; omega
  have e2 : (l.length : Int) % 2880 = (r : Int) := by omega
  clear h hr
  by_cases h0 : r = 0
  · rw [if_pos h0] at HF
    subst h0
    go_enter Tryz.func24, Tryz.ntmps24
    go_wp2
    go_ret
    exact ⟨_, rfl, by rw [HF.out]; exact HG.out⟩
  · rw [if_neg h0] at HF
    have d0 : decide ((0 : Int) < (r : Int)) = true := decide_eq_true (by omega)
    have hc := c.toNat_lt
    have hm : (2880 : Int) - (r : Int) = ((2880 - r : Nat) : Int) := by omega
    obtain ⟨m, hm2⟩ : ∃ m, 2880 - r = m := ⟨_, rfl⟩
    rw [hm2] at hm HF
    have hm1 : 1 ≤ m ∧ m ≤ 2880 := by omega
    have HR := Lib.hid (fun W q cap hq => repeat_any c m q cap hm1.1 (by omega) W hq)
    have hb0 : ∀ o, Below w.heap.size w (w.alloc o) := fun o => (Below.refl _ _).alloc (Nat.le_refl _) _
    have HB0 := Lib.hid hb0
    clear hb0 hm2
    go_enter Tryz.func24, Tryz.ntmps24
    go_wp2_with fail
    have q2 : (w.alloc (.cells #[.int .u8 (c.toNat : Int)] 5)).cell? ⟨w.heap.size, 0, none⟩ = some (.int .u8 (c.toNat : Int)) := by simp
    have HW := Lib.hid (HB0.out (.cells #[.int .u8 (c.toNat : Int)] 5))
    generalize w.alloc (.cells #[.int .u8 (c.toNat : Int)] 5) = w2 at *
    refine (HR.out w2 _ _ q2).mono ?_; rintro e w3 ⟨rfl, HBu⟩
    have HG3 := Lib.hid (HG.out.below (below_step HW.out HBu.out.below))
    have HNw : Hid (BAt w3 w2.heap.size (List.replicate m c)) := Lib.hid HBu.out.holds
    have hos := Lib.hid HG3.out.1
    have hsz := HG3.out.2.1.size
    clear HR HW HBu HG q2 HB0
    go_wp2_with (first
      | (at_builtin; refine wpList_append_own_at _ rfl _ _ 27 rfl B 5 i0 (.int .u8 0) 1 1 Tryz.underlying27 hi hz0 hz1 hz2 rfl (by decide) (.slice a l.length cap) l.length (encB l) rfl hos.out ⟨w2.heap.size, 0, none⟩ m m (encB (List.replicate m c)) rfl (by rw [encB_len, List.length_replicate, Nat.mul_one]) HNw.out.news (encB_cells _) ?c3 ?c4 ?c5 ?_)
      | fail)
    case c3 => unfold maxLen; omega
    case c4 => omega
    case c5 => omega
    intro v' w4 hown hgrow _ _
    have R4 := HG3.out.stepS (m := List.replicate m c) (by rw [List.length_replicate]) hown hgrow
    obtain ⟨a4, cap4, rfl⟩ := R4.form
    have HR := Lib.hid R4
    clear hown hgrow hos R4 HG3
    go_wp2
    go_ret
    exact ⟨_, rfl, by rw [HF.out]; exact HR.out⟩
theorem filled_sp (B : Nat) (l : List UInt8) (v : Value) (w : World) (h : GB B w v l w) (hl : l.length ≤ 900000) :
    Calls Tryz.prog 24 #[v, .int .u8 32] w fun e w' => ∃ v', e = .returned v' ∧ GB B w v' (padR l (blk l.length) 32) w' := filled_any B 32 l v w h hl
theorem filled_no (B : Nat) (l : List UInt8) (v : Value) (w : World) (h : GB B w v l w) (hl : l.length ≤ 900000) :
    Calls Tryz.prog 24 #[v, .int .u8 0] w fun e w' => ∃ v', e = .returned v' ∧ GB B w v' (padR l (blk l.length) 0) w' := filled_any B 0 l v w h hl
end Go.Proofs.YtjcmpkkflboaoaaGreatDoor
