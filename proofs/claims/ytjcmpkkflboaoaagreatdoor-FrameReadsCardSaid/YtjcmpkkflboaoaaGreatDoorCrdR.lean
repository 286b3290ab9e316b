/- meridianref4.cardRow, blocks. -/
import Derived.Test.YtjcmpkkflboaoaaGreatDoorByt
namespace Go.Proofs.YtjcmpkkflboaoaaGreatDoor
open Go.RowKit

theorem padR_app (l m : List UInt8) (n : Nat) (c : UInt8) : padR (l ++ m) (l.length + n) c = l ++ padR m n c := by
  unfold padR
  rw [List.append_assoc, List.length_append, Nat.add_sub_add_left]
theorem enc_eq : ([.int .u8 61, .int .u8 32] : List Value) = encB [61, 32] := by kernel_rfl
theorem bs_list (l : List UInt8) : (bs l).data.toList = l := by simp [bs]
theorem blocks_any (n : Nat) (hn : n ≤ 1000000) (w : World) :
    Calls Tryz.prog 31 #[.int .i64 n] w fun e w' => e = .returned (.int .i64 (blk n : Nat)) ∧ w = w' := by
  have e : ((blk n : Nat) : Int) = ((n : Int) + 2879) / 2880 * 2880 := by unfold blk; omega
  have hb : ((n : Int) + 2879) / 2880 ≤ 1000 := by omega
  have h0 : 0 ≤ ((n : Int) + 2879) / 2880 := by omega
  rw [e]
  clear e
  go_enter Tryz.func31, Tryz.ntmps31
  go_wp2
  go_ret
  exact ⟨rfl, rfl⟩
set_option maxRecDepth 20000 in
set_option maxHeartbeats 1000000 in
/-- cardRow, behind a row that the caller owns. -/
theorem cardRow_any (B : Nat) (l nm vl : List UInt8) (v : Value) (w : World) (h : GB B w v l w) (hl : l.length ≤ 900000) (hn : nm.length ≤ 1000) (hv : vl.length ≤ 1000) :
    Calls Tryz.prog 28 #[v, .string (bs nm), .string (bs vl)] w fun e w' => ∃ v', e = .returned v' ∧ GB B w v' (l ++ rowC (nm, vl)) w' := by
  obtain ⟨i0, hi, hz0, hz1, hz2⟩ := info_parts info_byte
  obtain ⟨a, cap, rfl⟩ := h.form
  have HG := Lib.hid h
  have hBw := h.2.2
  have hsn : (bs nm).size = nm.length := bs_size nm
  have hsv : (bs vl).size = vl.length := bs_size vl
  have HP := Lib.hid (fun m n z hz v w h hn hl => padded_sp B n z hz m v w h hn hl)
  have HE1 : Hid (padR (l ++ nm) (l.length + 8) 32 = l ++ padR nm 8 32) := Lib.hid (padR_app l nm 8 32)
  have HE2 : Hid (padR (l ++ padR nm 8 32 ++ [61, 32] ++ vl) (l.length + 80) 32 = l ++ rowC (nm, vl)) := Lib.hid (by
    rw [show l ++ padR nm 8 32 ++ [61, 32] ++ vl = l ++ (padR nm 8 32 ++ [61, 32] ++ vl) by simp only [List.append_assoc], padR_app]
    rfl)
  have hp8 : (padR nm 8 32).length ≤ 1008 := by
    unfold padR
    rw [List.length_append, List.length_replicate]
    omega
  have HL1 : Hid ((l ++ nm).length = l.length + nm.length) := Lib.hid List.length_append
  have HL2 : Hid ((l ++ padR nm 8 32).length = l.length + (padR nm 8 32).length) := Lib.hid List.length_append
  have HL3 : Hid ((l ++ padR nm 8 32 ++ [61, 32]).length = l.length + (padR nm 8 32).length + 2) := Lib.hid (by rw [List.length_append, List.length_append]; rfl)
  have HL4 : Hid ((l ++ padR nm 8 32 ++ [61, 32] ++ vl).length = l.length + (padR nm 8 32).length + 2 + vl.length) := Lib.hid (by rw [List.length_append, HL3.out])
  have HSn : Hid (Lib.strCells (bs nm) = encB nm) := Lib.hid (by rw [encB_str, bs_list])
  have HSv : Hid (Lib.strCells (bs vl) = encB vl) := Lib.hid (by rw [encB_str, bs_list])
  clear h
  obtain ⟨m1, hm1⟩ : ∃ m, l ++ nm = m := ⟨_, rfl⟩
  obtain ⟨m2, hm2⟩ : ∃ m, l ++ padR nm 8 32 = m := ⟨_, rfl⟩
  obtain ⟨m3, hm3⟩ : ∃ m, l ++ padR nm 8 32 ++ [61, 32] = m := ⟨_, rfl⟩
  obtain ⟨m4, hm4⟩ : ∃ m, l ++ padR nm 8 32 ++ [61, 32] ++ vl = m := ⟨_, rfl⟩
  obtain ⟨m5, hm5⟩ : ∃ m, l ++ rowC (nm, vl) = m := ⟨_, rfl⟩
  have M5 := Lib.hid hm5
  rw [hm5] at HE2
  clear hm5
  have M1 := Lib.hid hm1
  have M2 := Lib.hid hm2
  have M3 := Lib.hid (show m2 ++ [61, 32] = m3 by rw [← hm2]; exact hm3)
  have M4 := Lib.hid (show m3 ++ vl = m4 by rw [← hm3]; exact hm4)
  rw [hm1] at HE1 HL1
  rw [hm2] at HE1 HL2
  rw [hm3] at HL3
  rw [hm4] at HL4 HE2
  clear hm1 hm2 hm3 hm4
  generalize bs nm = sn at *
  generalize bs vl = sv at *
  go_enter Tryz.func28, Tryz.ntmps28
  go_wp2_with (first
    | (at_builtin; refine Go.Lib.wpList_append_own_string _ rfl _ _ 27 9 rfl B 5 i0 Tryz.underlying27 Tryz.underlying9 hi hz0 hz1 hz2 (.slice a l.length cap) l.length (encB l) rfl HG.out.1 sn rfl ?c1 ?c2 hBw ?_)
    | fail)
  case c1 => unfold maxLen; omega
  case c2 => omega
  intro v1 w1 hown hgrow _
  rw [HSn.out] at hown
  have R1 := HG.out.stepS (m := nm) rfl hown hgrow
  rw [M1.out] at R1
  obtain ⟨a1, cap1, rfl⟩ := R1.form
  have G1 := Lib.hid R1
  clear hown hgrow R1 HG
  have HP1 := Lib.hid (HP.out _ (l.length + 8) ((l.length : Int) + 8) (by push_cast; rfl) _ _ G1.out.start (by omega) (by rw [HL1.out]; omega))
  rw [HE1.out] at HP1
  go_wp2_with fail
  refine HP1.out.mono ?_; rintro e w2 ⟨v2, rfl, hG2⟩
  obtain ⟨a2, cap2, rfl⟩ := hG2.form
  have G2 := Lib.hid (G1.out.trans hG2)
  clear hG2 HP1 G1
  have hos := Lib.hid (fun o => World.ownsRow.alloc G2.out.1 o)
  have hsz := G2.out.2.1.size
  go_wp2_with (first
    | (at_builtin; refine wpList_append_own_at _ rfl _ _ 27 rfl B 5 i0 (.int .u8 0) 1 1 Tryz.underlying27 hi hz0 hz1 hz2 rfl (by decide) (.slice a2 m2.length cap2) m2.length (encB m2) rfl (hos.out _) ⟨w2.heap.size, 0, none⟩ 2 2 [.int .u8 61, .int .u8 32] rfl rfl (newsB _ _ _) (by rw [enc_eq]; exact encB_cells _) ?c3 ?c4 ?c5 ?_)
    | fail)
  case c3 => rw [HL2.out]; unfold maxLen; omega
  case c4 => rw [HL2.out]; omega
  case c5 => simp; omega
  intro v3 w3 hown hgrow _ _
  rw [enc_eq] at hown
  have R3 := G2.out.step (m := [61, 32]) rfl hown hgrow
  rw [M3.out] at R3
  obtain ⟨a3, cap3, rfl⟩ := R3.form
  have G3 := Lib.hid R3
  clear hown hgrow R3 hos G2
  have hBw3 := Nat.le_trans G3.out.2.2 G3.out.2.1.size
  go_wp2_with (first
    | (at_builtin; refine Go.Lib.wpList_append_own_string _ rfl _ _ 27 9 rfl B 5 i0 Tryz.underlying27 Tryz.underlying9 hi hz0 hz1 hz2 (.slice a3 m3.length cap3) m3.length (encB m3) rfl G3.out.1 sv rfl ?c1 ?c2 hBw3 ?_)
    | fail)
  case c1 => rw [HL3.out]; unfold maxLen; omega
  case c2 => rw [HL3.out]; omega
  intro v4 w4 hown hgrow _
  rw [HSv.out] at hown
  have R4 := G3.out.stepS (m := vl) rfl hown hgrow
  rw [M4.out] at R4
  obtain ⟨a4, cap4, rfl⟩ := R4.form
  have G4 := Lib.hid R4
  clear hown hgrow R4 G3
  have HP4 := Lib.hid (HP.out _ (l.length + 80) ((l.length : Int) + 80) (by push_cast; rfl) _ _ G4.out.start (by omega) (by rw [HL4.out]; omega))
  rw [HE2.out] at HP4
  go_wp2_with fail
  refine HP4.out.mono ?_; rintro e w5 ⟨v5, rfl, hG5⟩
  obtain ⟨a5, cap5, rfl⟩ := hG5.form
  have G5 := Lib.hid (G4.out.trans hG5)
  clear hG5 HP4 G4
  go_wp2
  go_ret
  exact ⟨_, rfl, by rw [M5.out]; exact G5.out⟩
end Go.Proofs.YtjcmpkkflboaoaaGreatDoor
