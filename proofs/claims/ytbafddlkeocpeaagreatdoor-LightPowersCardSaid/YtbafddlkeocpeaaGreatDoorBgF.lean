/- nat.div by a turn. -/
import Derived.Test.YtbafddlkeocpeaaGreatDoorBgE
namespace Go.Proofs.YtbafddlkeocpeaaGreatDoor
open Go.RowKit

theorem natDiv_0 (gt : Nat) (w : World) (hT : w.cell? ⟨gt, 0, none⟩ = some (.int .u64 1296000000000)) :
    Calls Tryz.prog 55 #[.slice none 0 0, .pointer none, .slice none 0 0, .slice none 0 0, .slice (some ⟨gt, 0, none⟩) 1 1] w fun e w' => e = .returned (.tuple #[.slice none 0 0, .slice none 0 0]) ∧ w' = w := by
  have D := Lib.hid (fun W => divW_0 W)
  have E := Lib.hid (fun W => setWord_0 none 0 0 0 (Or.inr ⟨rfl, rfl, rfl⟩) (by omega) (by omega) W)
  go_enter Tryz.func55, Tryz.ntmps55
  go_wp2_with fail
  refine (D.out _).mono ?_; rintro e w1 ⟨rfl, rfl⟩
  go_wp2_with fail
  refine (E.out _).mono ?_; rintro e w1 ⟨rfl, rfl⟩
  go_wp2
  go_ret2
  exact ⟨rfl, rfl⟩
/-- The words of a product. -/
def prdCells (P : Nat) : Array Value := #[.int .u64 ((P % 18446744073709551616 : Nat) : Int), .int .u64 ((P / 18446744073709551616 : Nat) : Int), .int .u64 0, .int .u64 0, .int .u64 0, .int .u64 0]
/-- What is behind the division: the rest at block g, where there is one. -/
def Rest (w w' : World) (B g P kr : Nat) : Prop :=
  (P % 1296000000000 = 0 ∧ kr = 0 ∨ P % 1296000000000 ≠ 0 ∧ kr = 1) ∧ Kept w w' g ∧ Below B w w' ∧
    ∃ cs : Array Value, cs.size = 6 ∧ w'.heap[g]? = some (.cells cs 71) ∧ (kr = 1 → cs[0]? = some (.int .u64 ((P % 1296000000000 : Nat) : Int)))

theorem natDiv_any (B g gt k P : Nat) (hk : k = 1 ∧ P < 18446744073709551616 ∨ k = 2 ∧ 18446744073709551616 ≤ P) (hP : P / 18446744073709551616 < 1296000000000) (w : World) (hB : B ≤ w.heap.size) (hBg : B ≤ g)
    (og : w.heap[g]? = some (.cells (prdCells P) 71)) (hT : w.cell? ⟨gt, 0, none⟩ = some (.int .u64 1296000000000)) :
    Calls Tryz.prog 55 #[.slice none 0 0, .pointer none, .slice (some ⟨g, 0, none⟩) k 6, .slice (some ⟨g, 0, none⟩) k 6, .slice (some ⟨gt, 0, none⟩) 1 1] w fun e w' =>
      ∃ h kq cq kr, kq ≤ 2 ∧ e = .returned (.tuple #[.slice (some ⟨h, 0, none⟩) kq cq, .slice (some ⟨g, 0, none⟩) kr 6]) ∧ Rest w w' B g P kr := by
  have c0 := heap_cell og 0 (v := .int .u64 ((P % 18446744073709551616 : Nat) : Int)) rfl
  have c1 := heap_cell og 1 (v := .int .u64 ((P / 18446744073709551616 : Nat) : Int)) rfl
  have lg := heap_lt og
  have D : Hid (∃ u : Unit, Calls Tryz.prog 75 #[.slice none 0 0, .slice (some ⟨g, 0, none⟩) k 6, .int .u64 1296000000000] w fun e w' =>
      ∃ h kq cq, kq ≤ 2 ∧ e = .returned (.tuple #[.slice (some ⟨h, 0, none⟩) kq cq, .int .u64 ((P % 1296000000000 : Nat) : Int)]) ∧ Below w.heap.size w w') := Lib.hid ⟨(), by
    rcases hk with ⟨rfl, hk⟩ | ⟨rfl, hk⟩
    · have e0 : P % 18446744073709551616 = P := Nat.mod_eq_of_lt hk
      rw [e0] at c0
      exact divW_1 g 6 P hk w c0
    · have h := divW_2 g 6 (P / 18446744073709551616) (P % 18446744073709551616) hP (Nat.mod_lt _ (by decide)) w c0 c1
      rw [show P / 18446744073709551616 * 18446744073709551616 + P % 18446744073709551616 = P by omega] at h
      exact h⟩
  have hk2 : k ≤ 2 := by omega
  have OG := Lib.hid og
  clear og c0 c1 hk hP
  by_cases hr : P % 1296000000000 = 0
  · have E := Lib.hid (fun W => setWord_0 (some ⟨g, 0, none⟩) g k 6 (Or.inl rfl) (by omega) (by omega) W)
    have HR : Hid (∀ kr, kr = 0 → ∀ w', Below w.heap.size w w' → Rest w w' B g P kr) := Lib.hid (fun kr hkr w' hb => ⟨Or.inl ⟨hr, hkr⟩, fun b h1 _ => hb.block b h1, hb.mono hB, prdCells P, rfl, by rw [hb.block g lg]; exact OG.out, fun h => by omega⟩)
    rw [hr] at D
    clear hr
    go_enter Tryz.func55, Tryz.ntmps55
    go_wp2_with fail
    obtain ⟨_, D'⟩ := D.out
    refine D'.mono ?_; rintro e w1 ⟨h, kq, cq, hq, rfl, hb⟩
    have HB := Lib.hid hb
    clear hb D'
    go_wp2_with fail
    refine (E.out _).mono ?_; rintro e w2 ⟨rfl, rfl⟩
    go_wp2
    go_ret2
    exact ⟨h, kq, cq, 0, hq, rfl, HR.out 0 rfl _ HB.out⟩
  · obtain ⟨r, hr'⟩ : ∃ r, r = P % 1296000000000 := ⟨_, rfl⟩
    have HR : Hid (∀ kr, kr = 1 → ∀ w', Below w.heap.size w w' → Rest w (w'.setCell ⟨g, 0, none⟩ (.int .u64 (r : Int))) B g P kr) := Lib.hid (fun kr hkr w' hb => ⟨Or.inr ⟨hr, hkr⟩, fun b h1 h2 => by rw [heap_set_far h2]; exact hb.block b h1, (hb.mono hB).setCell hBg _, (prdCells P).setIfInBounds 0 (.int .u64 (r : Int)), (by simp [prdCells]), heap_set (by rw [hb.block g lg]; exact OG.out) 0 _, fun _ => by rw [← hr']; simp [prdCells]⟩)
    have E := Lib.hid (fun (v0 : Value) (W : World) hc hf => setWord_1 g k r (by omega) v0 W hc hf)
    rw [← hr'] at D
    have FX : Hid (∀ w', Below w.heap.size w w' → w'.cell? ⟨g, 0, none⟩ = some (.int .u64 ((P % 18446744073709551616 : Nat) : Int)) ∧ w'.frozen? ⟨g, 0, none⟩ = false) := Lib.hid (fun w' hb => ⟨by rw [hb.cell (p := ⟨g, 0, none⟩) lg]; exact heap_cell OG.out 0 rfl, by rw [hb.frozen (p := ⟨g, 0, none⟩) lg]; exact heap_frozen OG.out 0⟩)
    clear hr hr'
    go_enter Tryz.func55, Tryz.ntmps55
    go_wp2_with fail
    obtain ⟨_, D'⟩ := D.out
    refine D'.mono ?_; rintro e w1 ⟨h, kq, cq, hq, rfl, hb⟩
    have HB := Lib.hid hb
    clear hb D'
    go_wp2_with fail
    refine (E.out _ _ (FX.out _ HB.out).1 (FX.out _ HB.out).2).mono ?_; rintro e w2 ⟨rfl, rfl⟩
    go_wp2
    go_ret2
    exact ⟨h, kq, cq, 1, hq, rfl, HR.out 1 rfl _ HB.out⟩
end Go.Proofs.YtbafddlkeocpeaaGreatDoor
