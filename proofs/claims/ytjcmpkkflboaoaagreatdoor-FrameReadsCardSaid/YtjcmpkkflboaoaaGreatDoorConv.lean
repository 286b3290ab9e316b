/- A byte as a string (XDecimal's first part). -/
import Derived.Test.YtjcmpkkflboaoaaGreatDoorTxtP
import Derived.Deep.RegionWith
namespace Go.Proofs.YtjcmpkkflboaoaaGreatDoor
open Go.RowKit

/-- A string of one byte that a new cell holds. -/
theorem conv_cell (W : World) (b : Nat) (y : Int) (h0 : 0 ≤ y) (h1 : y < 256) (hc : W.cell? ⟨b, 0, none⟩ = some (.int .u8 y)) :
    (convert 27 9 (.slice (some ⟨b, 0, none⟩) 1 1)).run Tryz.prog W = .ok (.string (bs [UInt8.ofNat y.toNat])) W := by
  refine run_convert_bytes_back (P := Tryz.prog) W 27 9 5 ⟨b, 0, none⟩ 1 [UInt8.ofNat y.toNat] Tryz.underlying27 Tryz.underlying5 Tryz.underlying9 (fun j hj => ?_)
  obtain rfl : j = 0 := by simp at hj; exact hj
  have e : ((UInt8.ofNat y.toNat).toNat : Int) = y := by
    rw [UInt8.toNat_ofNat']; omega
  simp only [List.getElem_cons_zero, e]
  exact hc

theorem bcell {W w1 : World} (hb : Below W.heap.size W w1) : (∀ b o, b < W.heap.size → w1.cell? ⟨b, o, none⟩ = W.cell? ⟨b, o, none⟩) ∧ (∀ b o, b < W.heap.size → w1.frozen? ⟨b, o, none⟩ = W.frozen? ⟨b, o, none⟩) :=
  ⟨fun b o h => hb.cell (p := ⟨b, o, none⟩) h, fun b o h => hb.frozen (p := ⟨b, o, none⟩) h⟩
end Go.Proofs.YtjcmpkkflboaoaaGreatDoor

namespace Go.Proofs.YtjcmpkkflboaoaaGreatDoor
open Go.RowKit

theorem decimal_one (n : Nat) (hn : n < 10) (W : World) :
    Calls Tryz.prog 29 #[.int .i64 n] W fun e w' => e = .returned (.string (bs (Lib.decDigits n))) ∧ Below W.heap.size W w' := by
  have hcv := fun (W : World) (b : Nat) h => conv_cell W b (48 + (n : Int)) (by omega) (by omega) h
  have hr : Hid (bs (Lib.decDigits n) = bs [UInt8.ofNat (48 + (n : Int)).toNat]) := Lib.hid (by rw [Lib.decDigits_one hn, show (48 + (n : Int)).toNat = 48 + n by omega])
  go_enter Tryz.func29, Tryz.ntmps29
  go_wp2
  go_ret
  exact ⟨by rw [hr.out]; rfl, by go_grown⟩
set_option maxHeartbeats 1000000 in
set_option maxRecDepth 20000 in
theorem decimal_any (k : Nat) : ∀ (n : Nat) (W : World), n ≤ k → n < 9223372036854775808 →
    Calls Tryz.prog 29 #[.int .i64 n] W fun e w' => ∃ d : ByteArray, e = .returned (.string d) ∧ d.size ≤ n + 1 ∧ Hid (d = bs (Lib.decDigits n)) ∧ Below W.heap.size W w' := by
  induction k with
  | zero =>
    intro n W hk hn
    exact (decimal_one n (by omega) W).mono fun e w' ⟨he, hb⟩ => ⟨_, he, by rw [bs_size, Lib.decDigits_one (by omega)]; simp, Lib.hid rfl, hb⟩
  | succ k ih =>
    intro n W hk hn
    by_cases c : n < 10
    · exact (decimal_one n c W).mono fun e w' ⟨he, hb⟩ => ⟨_, he, by rw [bs_size, Lib.decDigits_one c]; simp, Lib.hid rfl, hb⟩
    · have HI := Lib.hid (fun W => ih (n / 10) W (by omega) (by omega))
      have hr : Hid (∀ d : ByteArray, d = bs (Lib.decDigits (n / 10)) → d ++ bs [UInt8.ofNat (48 + (n : Int) % 10).toNat] = bs (Lib.decDigits n)) := Lib.hid (fun d hd => by
        rw [hd, bs_append, decDigits_big c, show (48 + (n : Int) % 10).toNat = 48 + n % 10 by omega])
      have hcv := fun (W : World) (b : Nat) h => conv_cell W b (48 + (n : Int) % 10) (by omega) (by omega) h
      have e10 : ((n / 10 : Nat) : Int) = (n : Int) / 10 := by omega
      rw [e10] at HI
      have w0 : (n : Int).tmod 10 = (n : Int) % 10 := Int.tmod_eq_emod_of_nonneg (by omega)
      have w1 : IntKind.i64.wrap ((n : Int) / 10) = (n : Int) / 10 := IntWalk.i64_in _ (by omega)
      have w2 : IntKind.i64.wrap (48 + (n : Int) % 10) = 48 + (n : Int) % 10 := IntWalk.i64_in _ (by omega)
      have w3 : IntKind.u8.wrap (48 + (n : Int) % 10) = 48 + (n : Int) % 10 := by rw [IntKind.wrap_u8]; omega
      have hq : (bs [UInt8.ofNat (48 + (n : Int) % 10).toNat]).size ≤ 1 := by rw [bs_size]; exact Nat.le_refl _
      generalize bs [UInt8.ofNat (48 + (n : Int) % 10).toNat] = q at *
      clear ih hk e10
      go_enter Tryz.func29, Tryz.ntmps29
      go_wp2
      go_region_with (go_at_call 29; refine (HI.out _).mono ?_; rintro e w1 ⟨d, rfl, hd, HD, hb⟩; obtain ⟨hbc, hbf⟩ := bcell hb)
      all_goals
        go_wp2
        go_ret
        refine ⟨_, rfl, by rw [ByteArray.size_append]; omega, Lib.hid (hr.out d HD.out), ?_⟩
        first
          | exact below_step ((((Below.refl _ _).alloc (Nat.le_refl _) _)).drew) hb
          | exact below_step ((((Below.refl _ _).drew).alloc (Nat.le_refl _) _)) hb
          | exact (below_step ((Below.refl _ _).drew) hb).alloc (by have := hb.size; simp at this; omega) _
theorem decimal_int (x : Int) (h0 : 0 ≤ x) (h1 : x < 9223372036854775808) (W : World) :
    Calls Tryz.prog 29 #[.int .i64 x] W fun e w' => ∃ d : ByteArray, e = .returned (.string d) ∧ d.size ≤ x.toNat + 1 ∧ Hid (d = bs (Lib.decDigits x.toNat)) ∧ Below W.heap.size W w' := by
  have e : ((x.toNat : Nat) : Int) = x := by omega
  have h := decimal_any x.toNat x.toNat W (Nat.le_refl _) (by omega)
  rw [e] at h
  exact h
end Go.Proofs.YtjcmpkkflboaoaaGreatDoor
