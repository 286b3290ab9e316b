/- round and setExpAndRound of a sum. -/
import Derived.Test.YtmkdcnemocdefaaGreatFmtFlo2
namespace Go.Proofs.YtmkdcnemocdefaaGreatFmt
open Go.RowKit

/-- A sum that is not nought: S units, at the block b, its words at the block g. -/
def Fin (K : Nat) (w : World) (b g c : Nat) (acc : Int) (neg : Bool) (S : Nat) : Prop :=
  ∃ n f A, Flt w b 2400 acc 1 neg (.slice (some ⟨g, 0, none⟩) n c) ((A + 64 * n : Nat) - (K : Int) - 1074) ∧ Blk w g c f ∧ Wds f n ∧ n ≤ c ∧ n ≤ 38 ∧ Man K (num f n) n A S

theorem round_any (K b g n c A S : Nat) (acc : Int) (neg : Bool) (f : Nat → Nat) (w : World) (h : Flt w b 2400 acc 1 neg (.slice (some ⟨g, 0, none⟩) n c) ((A + 64 * n : Nat) - (K : Int) - 1074)) (hb : Blk w g c f) (hne : b ≠ g) (hn : n ≤ 900000) (hc : n ≤ c) (hf : Wds f n)
    (hM : Man K (num f n) n A S) (hE : A + 64 * n ≤ K + 2400) :
    Calls Tryz.prog 30 #[.pointer (some ⟨b, 0, none⟩), .int .u64 0] w fun e w' => e = .returned (.tuple #[]) ∧ Fin K w' b g c 0 neg S ∧ Fr w w' b g := by
  rcases Nat.lt_trichotomy n 38 with q | q | q
  · refine (round_fit b 2400 g n c acc _ neg w h (by omega) (by omega)).mono ?_
    rintro e w' ⟨rfl, rfl⟩
    exact ⟨rfl, ⟨n, f, A, h.s2 0, hb.of_eq (heap_set_far (Ne.symm hne) _ _), hf, hc, by omega, hM⟩, (Fr.refl w b g).setB _ _⟩
  · subst q
    refine (round_38 b g c acc _ neg f w h hb hne hc hf (hM.low (by omega))).mono ?_
    rintro e w' ⟨rfl, h1, h2, h3⟩
    exact ⟨rfl, ⟨38, f, A, h1, h2, hf, hc, by omega, hM⟩, h3⟩
  · refine (round_gt b g n c acc _ neg f w h hb hne q (by omega) hc hf (hM.low (by omega))).mono ?_
    rintro e w' ⟨rfl, h1, h2, h3⟩
    have e0 : ∀ i, i < 38 → put f 0 38 (fun i => f (n - 38 + i)) i = f (n - 38 + i) := fun i hi => put0_in _ _ _ _ hi
    have eN : num (put f 0 38 (fun i => f (n - 38 + i))) 38 = num f n / 2 ^ (64 * (n - 38)) := by
      rw [num_congr e0]
      have k := num_drop f n (n - 38) (by omega) hf
      rw [show n - (n - 38) = 38 by omega] at k
      exact k
    have hS := hM.strike (d := n - 38) (by omega) (by omega)
    rw [show n - (n - 38) = 38 by omega, ← eN] at hS
    refine ⟨rfl, ⟨38, _, A + 64 * (n - 38), ?_, h2, fun i hi => by rw [e0 i hi]; exact hf _ (by omega), by omega, by omega, hS⟩, h3⟩
    rw [show A + 64 * (n - 38) + 64 * 38 = A + 64 * n by omega]
    exact h1
set_option maxRecDepth 20000 in
theorem setExp_any (K b g n c A S : Nat) (acc exp0 : Int) (form : Nat) (neg : Bool) (f : Nat → Nat) (w : World) (h : Flt w b 2400 acc form neg (.slice (some ⟨g, 0, none⟩) n c) exp0) (hb : Blk w g c f) (hne : b ≠ g) (hn : n ≤ 900000) (hc : n ≤ c) (hf : Wds f n)
    (hM : Man K (num f n) n A S) (hE : A + 64 * n ≤ K + 2400) (ex : Int) (hex : ex = ((A + 64 * n : Nat) - (K : Int) - 1074)) :
    Calls Tryz.prog 51 #[.pointer (some ⟨b, 0, none⟩), .int .i64 ex, .int .u64 0] w fun e w' => e = .returned (.tuple #[]) ∧ Fin K w' b g c 0 neg S ∧ Fr w w' b g := by
  have t := hM.top
  have b1 : -1073 ≤ ex ∧ ex ≤ 1326 := by omega
  have H2 : Flt ((w.setCell ⟨b, 3, none⟩ (.int .u8 1)).setCell ⟨b, 6, none⟩ (.int .i32 ex)) b 2400 acc 1 neg (.slice (some ⟨g, 0, none⟩) n c) ex := (h.s3 1).s6 ex
  have HR := Lib.hid (round_any K b g n c A S acc neg f ((w.setCell ⟨b, 3, none⟩ (.int .u8 1)).setCell ⟨b, 6, none⟩ (.int .i32 ex)) (by rw [← hex]; exact H2) ((hb.of_eq (heap_set_far (Ne.symm hne) _ _)).of_eq (heap_set_far (Ne.symm hne) _ _)) hne hn hc hf hM hE)
  have HFr := Lib.hid (((Fr.refl w b g).setB 3 (.int .u8 1)).setB 6 (.int .i32 ex))
  have c3 := h.c3
  have c6 := h.c6
  have f3 := h.fr 3
  have f6 := h.fr 6
  clear h H2 hb hf hM hE hex t
  go_enter Tryz.func51, Tryz.ntmps51
  go_wp2_with fail
  refine HR.out.mono ?_; rintro e w1 ⟨rfl, h1, h2⟩
  have H1 := Lib.hid h1
  have H2 := Lib.hid h2
  clear h1 h2
  go_wp2
  refine bodyPost_end (results_none rfl _ _ _) rfl ?_
  exact ⟨rfl, H1.out, HFr.out.trans H2.out (Or.inl rfl)⟩
end Go.Proofs.YtmkdcnemocdefaaGreatFmt
