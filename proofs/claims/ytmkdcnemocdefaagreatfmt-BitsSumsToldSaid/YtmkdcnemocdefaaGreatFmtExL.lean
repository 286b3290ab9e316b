/- The reference's level. -/
import Derived.Test.YtmkdcnemocdefaaGreatFmtExT
namespace Go.Proofs.YtmkdcnemocdefaaGreatFmt
open Go.RowKit

theorem Exa.congr {w : World} {e h : Nat} {f f' : Nat → Int} (H : Exa w e h f) (he : ∀ i, i < 72 → f' i = f i) : Exa w e h f' := by
  obtain ⟨h1, ⟨cs, h2, h3, h4⟩, h5⟩ := H
  exact ⟨h1, ⟨cs, h2, h3, fun i hi => by rw [h4 i hi, he i hi]⟩, h5⟩
/-- Levelled: S units. -/
def Lev (w : World) (e h S : Nat) : Prop := ∃ g : Nat → Nat, Exa w e h (fun i => (g i : Int)) ∧ (∀ i, i < 72 → g i < 2 ^ 32) ∧ numd g 72 = S
theorem lev_of {w : World} {e h S : Nat} {F : Nat → Int} (H : Exa w e h F) (hF : ∀ i, i < 72 → 0 ≤ F i ∧ F i < 4294967296) (hS : vald F 72 = (S : Int)) : Lev w e h S := by
  have q : ∀ i, i < 72 → ((F i).toNat : Int) = F i := fun i hi => Int.toNat_of_nonneg (hF i hi).1
  refine ⟨fun i => (F i).toNat, H.congr q, fun i hi => ?_, ?_⟩
  · have := hF i hi
    have r := q i hi
    show (F i).toNat < 2 ^ 32
    omega
  · have v := vald_numd (fun i => (F i).toNat) 72
    rw [vald_congr (g := F) q, hS] at v
    exact (Int.ofNat_inj.1 v).symm
/-- The first loop, at digit i. -/
def L1 (w wr : World) (e h : Nat) (f : Nat → Int) (i : Nat) (c : Int) : Prop :=
  ∃ F, Exa wr e h F ∧ Only w wr h ∧ (∀ j, i ≤ j → F j = f j) ∧ (∀ j, j < i → 0 ≤ F j ∧ F j < 4294967296) ∧ vald F i + c * 2 ^ (32 * i) = vald f i
theorem L1.next {w wr : World} {e h : Nat} {f : Nat → Int} {i : Nat} {c : Int} (H : L1 w wr e h f i c) :
    L1 w (wr.setCell ⟨h, i, none⟩ (.int .i64 ((f i + c) % 4294967296))) e h f (i + 1) ((f i + c) / 4294967296) := by
  obtain ⟨F, h1, h2, h3, h4, h5⟩ := H
  refine ⟨updI F i ((f i + c) % 4294967296), h1.set i _, h2.set i _, fun j hj => ?_, fun j hj => ?_, ?_⟩
  · unfold updI; rw [if_neg (by omega)]; exact h3 j (by omega)
  · unfold updI
    split
    · omega
    · exact h4 j (by omega)
  · refine level_step f _ i c ?_ (if_pos rfl)
    rw [vald_congr (f := updI F i ((f i + c) % 4294967296)) (g := F) (fun j hj => if_neg (by omega))]
    exact h5
/-- The second loop, at digit i. -/
def L2 (w wr : World) (e h : Nat) (F : Nat → Int) (i : Nat) (c : Int) : Prop :=
  ∃ G, Exa wr e h G ∧ Only w wr h ∧ (∀ j, i ≤ j → G j = F j) ∧ (∀ j, j < i → 0 ≤ G j ∧ G j < 4294967296) ∧ vald G i + c * 2 ^ (32 * i) + vald F i = 2 ^ (32 * i)
theorem L2.next {w wr : World} {e h : Nat} {F : Nat → Int} {i : Nat} {c : Int} (H : L2 w wr e h F i c) :
    L2 w (wr.setCell ⟨h, i, none⟩ (.int .i64 ((4294967295 - F i + c) % 4294967296))) e h F (i + 1) ((4294967295 - F i + c) / 4294967296) := by
  obtain ⟨G, h1, h2, h3, h4, h5⟩ := H
  refine ⟨updI G i ((4294967295 - F i + c) % 4294967296), h1.set i _, h2.set i _, fun j hj => ?_, fun j hj => ?_, ?_⟩
  · unfold updI; rw [if_neg (by omega)]; exact h3 j (by omega)
  · unfold updI
    split
    · omega
    · exact h4 j (by omega)
  · refine turn_step F _ i c ?_ (if_pos rfl)
    rw [vald_congr (f := updI G i ((4294967295 - F i + c) % 4294967296)) (g := G) (fun j hj => if_neg (by omega))]
    exact h5

set_option maxRecDepth 20000 in
set_option maxHeartbeats 2000000 in
theorem level_any (e h : Nat) (f : Nat → Int) (w : World) (H : Exa w e h f) (hB : ∀ i, i < 72 → -1000000000000000 ≤ f i ∧ f i ≤ 1000000000000000) (P : Int) (hP : (2 : Int) ^ (32 * 72) = P) (hV : -P < vald f 72 ∧ vald f 72 < P) :
    Calls Tryz.prog 20 #[.pointer (some ⟨e, 0, none⟩)] w fun en w' => en = .returned (.int .i64 (if vald f 72 < 0 then -1 else 1)) ∧ Lev w' e h (vald f 72).natAbs ∧ Only w w' h := by
  have HB := Lib.hid hB
  have H1 : Hid (L1 w w e h f 0 0) := Lib.hid ⟨f, H, Only.refl _ _, fun _ _ => rfl, fun j hj => by omega, by simp [vald]⟩
  have HVV := Lib.hid (show (2 : Int) ^ (32 * 72) = P ∧ -P < vald f 72 ∧ vald f 72 < P from ⟨hP, hV⟩)
  clear H hB hP hV
  obtain ⟨R, hR⟩ : ∃ R : Int, R = if vald f 72 < 0 then -1 else 1 := ⟨_, rfl⟩
  rw [← hR]
  have HR := Lib.hid hR
  clear hR
  go_enter Tryz.func20, Tryz.ntmps20
  go_wp2_with fail
  go_loopw [3, 4] (fun c i wr => ∃ (k : Nat) (cy : Int), k ≤ 72 ∧ i = .int .i64 k ∧ c = .int .i64 cy ∧ -1000000 ≤ cy ∧ cy ≤ 1000000 ∧ Hid (L1 w wr e h f k cy)) (fun _ i _ => 72 - (intOf i).toNat)
  case atStart => exact ⟨0, 0, by omega, rfl, rfl, by omega, by omega, H1⟩
  case round =>
    obtain ⟨k, cy, hk, rfl, rfl, hc1, hc2, HL⟩ := hrel
    rcases Nat.lt_or_ge k 72 with hk2 | hk2
    · have HN := Lib.hid (HL.out.next)
      obtain ⟨F, h1, h2, h3, h4, h5⟩ := HL.out
      have c0 := h1.c0
      have c1 := h1.2.1.cell k hk2
      have g1 := h1.2.1.frozen k
      rw [h3 k (Nat.le_refl _)] at c1
      have b := HB.out k hk2
      obtain ⟨v, hv⟩ : ∃ v, f k = v := ⟨_, rfl⟩
      rw [hv] at c1 b HN
      obtain ⟨q, hq⟩ : ∃ q, (v + cy) / 4294967296 = q := ⟨_, rfl⟩
      have hq2 : -1000000 ≤ q ∧ q ≤ 1000000 := by omega
      have em : v + cy - q * 4294967296 = (v + cy) % 4294967296 := by omega
      rw [hq] at HN
      clear h1 h2 h3 h4 h5 hv H1
      go_wp2_with fail
      exact ⟨⟨k + 1, q, by omega, rfl, rfl, hq2.1, hq2.2, HN⟩, by simp [intOf]; omega⟩
    · obtain rfl : k = 72 := by omega
      obtain ⟨F, h1, h2, h3, h4, h5⟩ := HL.out
      have r := vald_range h4
      obtain ⟨e1, e2, e3⟩ := HVV.out
      rw [e1] at h5 r
      have hF := Lib.hid h4
      have HE := Lib.hid h1
      have HO := Lib.hid h2
      clear h3 h4 h1 h2 H1
      rcases Int.lt_or_le cy 0 with hcy | hcy
      · have hc : cy = -1 := by
          have m := Int.mul_le_mul_of_nonneg_right (show cy ≤ -1 by omega) (show 0 ≤ P by omega)
          rcases Int.lt_or_le cy (-1) with g | g
          · have m2 := Int.mul_le_mul_of_nonneg_right (show cy ≤ -2 by omega) (show 0 ≤ P by omega)
            omega
          · omega
        subst hc
        have hv : vald f 72 < 0 := by omega
        have hvF : vald F 72 = vald f 72 + P := by omega
        have HVF := Lib.hid hvF
        have HPp := Lib.hid (show (2 : Int) ^ (32 * 72) = P ∧ -P < vald f 72 ∧ vald f 72 < 0 from ⟨e1, e2, hv⟩)
        have H2 : Hid (L2 w wr e h F 0 1) := Lib.hid ⟨F, HE.out, HO.out, fun _ _ => rfl, fun j hj => by omega, by simp [vald]⟩
        clear h5 r e1 e2 e3 hv hvF HVV HL HB
        go_wp2_with fail
        go_loopw [3, 6] (fun c i ws => ∃ (k : Nat) (cy : Int), k ≤ 72 ∧ i = .int .i64 k ∧ c = .int .i64 cy ∧ 0 ≤ cy ∧ cy ≤ 1 ∧ Hid (L2 w ws e h F k cy)) (fun _ i _ => 72 - (intOf i).toNat)
        case atStart => exact ⟨0, 1, by omega, rfl, rfl, by omega, by omega, H2⟩
        case round =>
          obtain ⟨k, cy, hk, rfl, rfl, hc1, hc2, HL⟩ := hrel
          rcases Nat.lt_or_ge k 72 with hk2 | hk2
          · have HN := Lib.hid HL.out.next
            obtain ⟨G, h1, h2, h3, h4, h5⟩ := HL.out
            have c0 := h1.c0
            have c1 := h1.2.1.cell k hk2
            have g1 := h1.2.1.frozen k
            rw [h3 k (Nat.le_refl _)] at c1
            have b := hF.out k hk2
            obtain ⟨v, hv⟩ : ∃ v, F k = v := ⟨_, rfl⟩
            rw [hv] at c1 b HN
            obtain ⟨q, hq⟩ : ∃ q, (4294967295 - v + cy) / 4294967296 = q := ⟨_, rfl⟩
            have hq2 : 0 ≤ q ∧ q ≤ 1 := by omega
            have em : 4294967295 - v + cy - q * 4294967296 = (4294967295 - v + cy) % 4294967296 := by omega
            rw [hq] at HN
            clear h1 h2 h3 h4 h5 hv H2
            go_wp2_with fail
            exact ⟨⟨k + 1, q, by omega, rfl, rfl, hq2.1, hq2.2, HN⟩, by simp [intOf]; omega⟩
          · obtain rfl : k = 72 := by omega
            obtain ⟨G, h1, h2, h3, h4, h5⟩ := HL.out
            have r := vald_range h4
            obtain ⟨e1, e2, e3⟩ := HPp.out
            rw [e1, HVF.out] at h5
            rw [e1] at r
            have hc : cy = 0 := by
              rcases Int.lt_or_le 0 cy with g | g
              · have : cy = 1 := by omega
                subst this
                omega
              · omega
            subst hc
            have HLv : Hid (Lev wr e h (vald f 72).natAbs) := Lib.hid (lev_of h1 h4 (by omega))
            have HO2 := Lib.hid h2
            clear h1 h2 h3 h4 h5 r e1 e2 e3 H2
            go_wp2
            go_ret
            rw [HR.out, if_pos HPp.out.2.2]
            exact ⟨rfl, HLv.out, HO2.out⟩
      · have hc : cy = 0 := by
          rcases Int.lt_or_le 0 cy with g | g
          · have m := Int.mul_le_mul_of_nonneg_right (show 1 ≤ cy by omega) (show 0 ≤ P by omega)
            omega
          · omega
        subst hc
        have hv : ¬ (vald f 72 < 0) := by omega
        have HNv := Lib.hid hv
        have HLv : Hid (Lev wr e h (vald f 72).natAbs) := Lib.hid (lev_of HE.out hF.out (by omega))
        clear h5 r e1 e2 e3 hv HVV HL HB
        go_wp2
        go_ret
        rw [HR.out, if_neg (by have := HNv.out; omega)]
        exact ⟨rfl, HLv.out, HO.out⟩
end Go.Proofs.YtmkdcnemocdefaaGreatFmt
