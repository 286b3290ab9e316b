/- The law BitsSums, walked. -/
import Derived.Test.YtmkdcnemocdefaaGreatFmtRef2
import Derived.Test.YtmkdcnemocdefaaGreatFmtFrow
import Derived.ProofKit
import Derived.OpenShut
import Derived.Laws.Cover2
import Derived.ChangeSlices
import Derived.Deep.Slices
import Derived.Deep.Grids
namespace Go.Proofs.YtmkdcnemocdefaaGreatFmt
open Go.RowKit Ieee

theorem order_either (v : Nat) : FloatKind.f64.format.order v v = some .eq ∨ FloatKind.f64.format.order v v = none := by
  by_cases h : fieldW v < 2047 ∨ fracW v = 0
  · exact Or.inl (f_self h)
  · have l := field_le v
    exact Or.inr (f_nan (by omega) (by omega))
theorem same_self (v : Nat) (w : World) :
    Calls Tryz.prog 5 #[.float .f64 v, .float .f64 v] w fun e w' => e = .returned (.bool true) ∧ w' = w := by
  have h1 := @run_callFunc_extern Tryz.prog 17 _ Extern.MathFloatBits.float64bits Tryz.func17 (by kernel_rfl) (by kernel_rfl) (by kernel_rfl) (by kernel_rfl)
  rcases order_either v with ho | ho
  all_goals
    go_enter Tryz.func5, Tryz.ntmps5
    go_wp2
    go_ret
    exact ⟨rfl, rfl⟩
/-- One and two. -/
def oneTwo (i : Nat) : Nat := if i = 0 then 4607182418800017408 else 4611686018427387904
theorem sum_three : sumR oneTwo 2 = 4613937818241073152 := by decide +kernel
theorem one_two_lt (j : Nat) : oneTwo j < 18446744073709551616 := by unfold oneTwo; split <;> decide

set_option maxRecDepth 20000 in
set_option maxHeartbeats 2000000 in
theorem bitsSums_any (a : Option Addr) (n c : Nat) (f : Nat → Nat) (w : World) (hF : FRow w a n f) (hf : ∀ j, f j < 18446744073709551616) :
    Calls Tryz.prog 3 #[.slice a n c] w fun e w' => e = .returned (.bool true) ∧ Below w.heap.size w w' := by
  have h3 : FloatKind.f64.format.order 4613937818241073152 4613937818241073152 = some .eq := by decide +kernel
  have HP : Hid (∀ (W : World) (cap : Nat), W.cell? ⟨w.heap.size, 0, none⟩ = some (.float .f64 4607182418800017408) → W.cell? ⟨w.heap.size, 1, none⟩ = some (.float .f64 4611686018427387904) → Calls Tryz.prog 4 #[.slice (some ⟨w.heap.size, 0, none⟩) 2 cap] W fun e w' => e = .returned (.float .f64 4613937818241073152) ∧ Below W.heap.size W w') := Lib.hid (fun W cap c0 c1 => by
    have r := sum_loop (some ⟨w.heap.size, 0, none⟩) 2 cap oneTwo W (Or.inr ⟨w.heap.size, 0, rfl, fun j hj => by
      rw [Nat.zero_add]
      rcases Nat.lt_or_ge j 1 with h | h
      · obtain rfl : j = 0 := by omega
        exact c0
      · obtain rfl : j = 1 := by omega
        exact c1⟩) one_two_lt (by omega)
    rw [sum_three] at r
    exact r)
  have HF := Lib.hid hF
  have Hf := Lib.hid hf
  have HSm := Lib.hid (fun v W => same_self v W)
  clear hF hf
  go_enter Tryz.func3, Tryz.ntmps3
  go_wp2_with fail
  refine (HP.out _ _ (heap_cell (heap_new w _) 0 rfl) (heap_cell (heap_new w _) 1 rfl)).mono ?_; rintro e w1 ⟨rfl, hB1⟩
  have HB1 : Hid (Below w.heap.size w w1) := Lib.hid (((Below.refl _ w).alloc (Nat.le_refl _) _).trans (hB1.mono (by simp)))
  clear hB1 HP
  rcases Nat.lt_or_ge 300 n with hn | hn
  · have d1 : (300 : Int) < (n : Int) := by omega
    go_wp2
    go_ret
    exact ⟨rfl, HB1.out⟩
  · have d1 : ¬ ((300 : Int) < (n : Int)) := by omega
    have H1 := Lib.hid (sum_loop a n c f w1 (HF.out.below HB1.out) Hf.out hn)
    have H2 : Hid (∀ w2, Below w1.heap.size w1 w2 → Calls Tryz.prog 6 #[.slice a n c] w2 fun e w' => e = .returned (.float .f64 (sumR f n)) ∧ Below w2.heap.size w2 w') := Lib.hid (fun w2 hb => sumOf_any a n c f w2 ((HF.out.below HB1.out).below hb) Hf.out hn)
    generalize sumR f n = R at *
    go_wp2_with fail
    refine H1.out.mono ?_; rintro e w2 ⟨rfl, hB2⟩
    have H3 := Lib.hid (H2.out w2 hB2)
    have HB2 : Hid (Below w.heap.size w w2) := Lib.hid (HB1.out.trans (hB2.mono HB1.out.size))
    clear hB2
    go_wp2_with fail
    refine H3.out.mono ?_; rintro e w3 ⟨rfl, hB3⟩
    have HB3 : Hid (Below w.heap.size w w3) := Lib.hid (HB2.out.trans (hB3.mono HB2.out.size))
    clear hB3
    go_wp2_with fail
    refine (HSm.out _ _).mono ?_; rintro e w4 ⟨rfl, rfl⟩
    go_wp2
    go_ret
    exact ⟨rfl, HB3.out⟩
end Go.Proofs.YtmkdcnemocdefaaGreatFmt

namespace Go.Proofs.YtmkdcnemocdefaaGreatFmt
open Go.RowKit Go.ChangeShapes Go.WideShapes Go.Deep

theorem trod_floatw {H : Type} {enc : TypeId × Value → H} {P : Program} {w : World} {base : Nat} {spare : Nat → Bool} {held : Bool} {fuel : Nat} {t : TypeId} {cs : List Value} {x : DataW H × List MemPlace} (ht : P.underlying t = some (.float .f64)) (h : DataW.trod enc P w base spare held fuel t cs = some x) : ∃ n, cs = [.float .f64 n] ∧ n < 18446744073709551616 := by
  cases fuel with
  | zero => simp [DataW.trod] at h
  | succ m =>
    unfold DataW.trod at h
    rw [ht] at h
    split at h
    all_goals first
      | (simp_all; done)
      | (rename_i k k' b e
         injection e with e1
         injection e1 with e2
         subst e2
         split at h
         · rename_i hw
           refine ⟨b, by rw [hw.1], ?_⟩
           have := hw.2
           simpa [Lit.wf] using this
         · cases h)
theorem open_frowF {H : Type} {enc : TypeId × Value → H} {w : World} {base : Nat} {spare : Nat → Bool} {held : Bool} {fuel : Nat} {v : Value} {y : DataW H × List MemPlace}
    (h : DataW.trod enc Tryz.prog w base spare held fuel 22 [v] = some y) : ∃ a n cap f, v = .slice a n cap ∧ FRow w a n f ∧ ∀ j, f j < 18446744073709551616 := by
  rcases open_slice1 Tryz.underlying22 (by kernel_rfl) h with ⟨hcs, _⟩ | ⟨a, len, cap, m, q, V, D, Pl, hcs, _, hl, hm, hmm, _, hc⟩
  · simp at hcs
    exact ⟨none, 0, 0, fun _ => 0, hcs, Or.inl rfl, fun _ => Nat.zero_lt_succ _⟩
  · simp at hcs
    have hzl : len ≤ m := by rw [hmm]; split <;> omega
    have hV : ∀ j, ∃ n, (j < len → V j = .float .f64 n) ∧ n < 18446744073709551616 := fun j => by
      by_cases hj : j < len
      · obtain ⟨n, e, hn⟩ := trod_floatw Tryz.underlying23 (hc j (by omega)).2
        exact ⟨n, fun _ => by simpa using e, hn⟩
      · exact ⟨0, fun h => absurd h hj, by decide⟩
    refine ⟨some a, len, cap, fun j => Classical.choose (hV j), hcs, ?_, fun j => (Classical.choose_spec (hV j)).2⟩
    by_cases h0 : len = 0
    · exact Or.inl h0
    · have h1 := (hc 0 (by omega)).1
      obtain ⟨b, off, spot⟩ := a
      have hspot : spot = none := by simpa [Addr.add] using World.cell?_spot h1
      subst hspot
      exact Or.inr ⟨b, off, rfl, fun j hj => by
        have h2 := (hc j (by omega)).1
        rw [Addr.add_lit, (Classical.choose_spec (hV j)).1 hj] at h2
        exact h2⟩
end Go.Proofs.YtmkdcnemocdefaaGreatFmt
