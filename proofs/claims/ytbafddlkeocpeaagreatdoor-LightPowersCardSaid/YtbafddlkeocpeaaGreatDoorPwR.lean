/- What the reference's PowerAt answers. -/
import Derived.Test.YtbafddlkeocpeaaGreatDoorPwA
namespace Go.Proofs.YtbafddlkeocpeaaGreatDoor
open Go.RowKit Ieee

set_option maxHeartbeats 1000000 in
theorem powerAt_any (f : Nat → Int) (l : Nat → Nat) (n : Nat) (wv : Int) (at' al : Option Addr) (ct cl : Nat) (hn : n ≤ 1000000) (hw : In64 wv) (hf : ∀ j, j < n → -1099511627776 ≤ f j ∧ f j ≤ 1099511627776) (w : World)
    (hT : IRow w at' n f) (hL : FRow w al n l) :
    Calls Tryz.prog 8 #[.slice at' n ct, .slice al n cl, .int .i64 wv] w fun e w' => ∃ r, e = .returned (.float .f64 r) ∧ Sft (powO f l n wv) r ∧ Below w.heap.size w w' := by
  have HA := Lib.hid (fun j (hj : j < n) W => angleTimes_any wv (f j) hw (hf j hj) W)
  have HS := Lib.hid (fun t W => sinCos_any (angM wv t) (by have := angM_bd wv t; unfold In64; omega) W)
  have HT := Lib.hid (fun j (hj : j < n) => hT.at hj)
  have HL := Lib.hid (fun j (hj : j < n) => hL.at hj)
  have HP := Lib.hid (fun a y z W => plus_any a y z W)
  clear hT hL hf
  go_enter Tryz.func8, Tryz.ntmps8
  go_wp2
  go_loopw [7, 8, 9] (fun a b i wr => ∃ (k re im : Nat), k ≤ n ∧ i = .int .i64 k ∧ a = .float .f64 re ∧ b = .float .f64 im ∧ Hid (Sft (reO f l wv k) re) ∧ Hid (Sft (imO f l wv k) im) ∧ Hid (Below w.heap.size w wr)) (fun _ _ i _ => n - (intOf i).toNat)
  case atStart => exact ⟨0, 0, 0, Nat.zero_le _, rfl, rfl, rfl, Lib.hid rfl, Lib.hid rfl, Lib.hid (Below.refl _ _)⟩
  case round =>
    obtain ⟨k, re, im, hk, rfl, rfl, rfl, hre, him, hB⟩ := hrel
    by_cases hlt : k < n
    · obtain ⟨ba, oa, rfl, hba, ca⟩ := HT.out k hlt
      obtain ⟨bl, ol, rfl, hbl, cl'⟩ := HL.out k hlt
      have c1 : wr.cell? ⟨ba, oa + k, none⟩ = some (.int .i64 (f k)) := by rw [hB.out.cell (p := ⟨ba, oa + k, none⟩) hba]; exact ca
      have HC : Hid (wr.cell? ⟨bl, ol + k, none⟩ = some (.float .f64 (l k)) ∧ bl < wr.heap.size) := Lib.hid ⟨by rw [hB.out.cell (p := ⟨bl, ol + k, none⟩) hbl]; exact cl', by have := hB.out.size; omega⟩
      clear ca cl'
      have A1 := Lib.hid (fun W => HA.out k hlt W)
      go_wp2_with fail
      refine (A1.out _).mono ?_; rintro e w1 ⟨rfl, rfl⟩
      go_wp2_with fail
      refine (HS.out (f k) _).mono ?_; rintro e w1 ⟨rfl, hb1⟩
      have c2 : w1.cell? ⟨bl, ol + k, none⟩ = some (.float .f64 (l k)) := by rw [hb1.cell (p := ⟨bl, ol + k, none⟩) HC.out.2]; exact HC.out.1
      have HB1 := Lib.hid (hB.out.trans (hb1.mono hB.out.size))
      have hm := fun x y W => run_mulS x y W
      have ha := fun x y W => run_addS x y W
      clear hb1 A1 c1
      go_wp2
      refine ⟨⟨k + 1, _, _, by omega, by simp, rfl, rfl, Lib.hid (sft_add hre.out (sft_op _ _ _ _) _), Lib.hid (sft_add him.out (sft_neg (sft_op _ _ _ _)) _), Lib.hid ?_⟩, by simp [intOf]; omega⟩
      iterate 4 refine below_opW ?_ _
      exact HB1.out
    · have hkn : k = n := by omega
      subst hkn
      have hm := fun x y W => run_mulS x y W
      go_wp2_with fail
      refine (HP.out _ _ _ _).mono ?_; rintro e w1 ⟨W, rfl, hb1⟩
      clear hm
      have HB1 := Lib.hid hb1
      clear hb1
      go_wp2
      go_ret
      refine ⟨_, rfl, sft_add (sft_sq hre.out _) (sft_sq him.out _) _, hB.out.trans ?_⟩
      have h := HB1.out.mono (B' := w.heap.size) (by rw [size_opW]; exact hB.out.size)
      exact (below_opW (Below.refl _ _) _).trans h
end Go.Proofs.YtbafddlkeocpeaaGreatDoor
